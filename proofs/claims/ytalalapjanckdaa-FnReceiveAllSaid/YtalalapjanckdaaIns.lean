/- slices.BinarySearch and slices.Insert at []int, over a row of the call's own: out of the shelf's contracts. No condition but lists of at most 2^20 numbers. -/
import Derived.Test.YtalalapjanckdaaShI
import Derived.Test.YtalalapjanckdaaRcvV
namespace Go.Proofs.Ytalalapjanckdaa
open Go.RowKit
theorem c_BSearch (a : Option Addr) (n cap : Nat) (xs : List Int) (x : Int) (w : World) (hl : xs.length = n) (hn : n ≤ 1048576) (h : Ints w a xs) (hs : xs.Pairwise (· ≤ ·)) :
    Calls Try.prog 66 #[.slice a n cap, .int .i64 x] w fun e w' => e = .returned (.tuple #[.int .i64 (xs.countP (· < x) : Nat), .bool (xs.contains x)]) ∧ Below w.heap.size w w' := by
  by_cases h0 : n = 0
  · subst h0
    have hx : xs = [] := List.eq_nil_of_length_eq_zero hl
    subst hx
    refine Calls.mono (Any.slices_BinarySearch_int_empty Try.lays2_25 a cap x w) ?_
    rintro e w' ⟨rfl, rfl⟩
    exact ⟨rfl, Below.refl _ _⟩
  · obtain ⟨b, off, rfl, _, hc⟩ := h.at hl (show 0 < n by omega)
    have ht : xs.take n = xs := by rw [← hl, List.take_length]
    refine Calls.mono (Any.slices_BinarySearch_int Try.lays2_25 b off n cap xs x w (by omega) (by omega) (fun j hj => hc j (by omega)) (by rw [ht]; exact hs)) ?_
    rw [ht]
    rintro e w' ⟨rfl, q, rfl⟩
    exact ⟨rfl, below_drewN (Below.refl _ _) _⟩
theorem Ints.set {w : World} {a : Option Addr} {xs : List Int} (h : Ints w a xs) (p : Addr) (u : Value) (hp : ∀ q, a = some q → q.block ≠ p.block) : Ints (w.setCell p u) a xs := by
  rcases h with h | ⟨b, off, ha, hb, hc⟩
  · exact .inl h
  · exact .inr ⟨b, off, ha, by simpa using hb, fun i hi => (World.cell?_of_block (Below.heap_setCell w p u b (hp _ ha))).trans (hc i hi)⟩
/-- x put in at place i. -/
def insV (xs : List Int) (i : Nat) (x : Int) : List Int := xs.take i ++ x :: xs.drop i
theorem insV_len {xs : List Int} {i : Nat} {x : Int} (h : i ≤ xs.length) : (insV xs i x).length = xs.length + 1 := by
  simp [insV]; omega
theorem insV_lo {xs : List Int} {i j : Nat} {x : Int} (h : i ≤ xs.length) (hj : j < i) : (insV xs i x).getD j 0 = xs.getD j 0 := by
  rw [insV, List.getD_eq_getElem?_getD, List.getElem?_append_left (by rw [List.length_take]; omega), List.getElem?_take, if_pos hj, ← List.getD_eq_getElem?_getD]
theorem insV_eq {xs : List Int} {i : Nat} {x : Int} (h : i ≤ xs.length) : (insV xs i x).getD i 0 = x := by
  have : (xs.take i).length = i := by rw [List.length_take]; omega
  rw [insV, List.getD_eq_getElem?_getD, List.getElem?_append_right (by omega), this]; simp
theorem insV_hi {xs : List Int} {i j : Nat} {x : Int} (h : i ≤ xs.length) (hj : i < j) : (insV xs i x).getD j 0 = xs.getD (j - 1) 0 := by
  have : (xs.take i).length = i := by rw [List.length_take]; omega
  obtain ⟨d, rfl⟩ : ∃ d, j = i + 1 + d := ⟨j - i - 1, by omega⟩
  rw [insV, List.getD_eq_getElem?_getD, List.getElem?_append_right (by omega), this, show i + 1 + d - i = d + 1 by omega, List.getElem?_cons_succ, List.getElem?_drop, List.getD_eq_getElem?_getD, show i + 1 + d - 1 = i + d by omega]
theorem gb_setCells (b : Nat) : ∀ (vs : List Value) (o : Nat) (w : World), w.grownBy (w.setCells b o vs) (some b)
  | [], _, _ => World.grownBy.refl _ _
  | v :: r, o, w => grownBy.trans' (gb_setp w ⟨b, o, none⟩ v) (gb_setCells b r (o + 1) _)
theorem ins_map (xs : List Int) (i : Nat) : (xs.map (Value.int .i64)).drop i = (xs.drop i).map (Value.int .i64) := by rw [List.map_drop]
theorem map_get {xs : List Int} {j : Nat} (h : j < xs.length) : (xs.map (Value.int .i64))[j]? = some (.int .i64 (xs.getD j 0)) := by
  rw [List.getElem?_map, getD_of_lt h]; rfl
set_option maxHeartbeats 1000000 in
theorem c_Insert (base : Nat) (a : Option Addr) (n cap i vb : Nat) (xs : List Int) (x : Int) (w : World) (h : w.ownsRow base 3 1 (.slice a n cap) n (xs.map (Value.int .i64))) (hi : i ≤ n) (hn : n ≤ 1000000)
    (hx : Box w vb 3 [.int .i64 x]) (hne : (Value.slice a n cap).ownBlock ≠ some vb) :
    Calls Try.prog 67 #[.slice a n cap, .int .i64 i, .slice (some ⟨vb, 0, none⟩) 1 1] w fun e w' =>
      ∃ g c, e = .returned (.slice (some ⟨g, 0, none⟩) (n + 1) c) ∧ Ints w' (some ⟨g, 0, none⟩) (insV xs i x) ∧ w.grownBy w' (Value.slice a n cap).ownBlock ∧ ((Value.slice a n cap).ownBlock = some g ∨ g = w.heap.size) := by
  have hl : xs.length = n := by have := h.1; simpa using this
  have hvs : ∀ j v, [Value.int .i64 x][j]? = some v → w.cell? ⟨vb, 0 + j, none⟩ = some v := fun j v hj => by rw [Nat.zero_add, hx.cell j]; exact hj
  have hvl : ([Value.int .i64 x] : List Value).length = 1 := rfl
  have h1v : ∀ v ∈ [Value.int .i64 x], v.oneCell' = true := one1 rfl
  have hcl : (xs.map (Value.int .i64)).length = n := by simpa using hl
  have hcm := row_cap h
  have hcells := row_vals h
  have hcs : ∀ b, a = some ⟨b, 0, none⟩ → ∀ j v, (xs.map (Value.int .i64))[j]? = some v → w.cell? ⟨b, 0 + j, none⟩ = some v := by
    intro b hb j v hj
    rcases hcells with hc | ⟨b', off, hab, _, hc⟩
    · rw [hc] at hj; simp at hj
    · rw [hb] at hab; cases hab; exact hc j v hj
  have hgrow : n ≤ 1000000 → (n + 1) * 8 ≤ 140737488355328 := fun _ => by omega
  by_cases hroom : n + 1 ≤ cap
  · rcases h.2 with ⟨h1, h2⟩ | ⟨g, c, cur, h1, hbg, hg, hnc, hcx, hsz, htake⟩
    · injection h1 with _ _ h4; omega
    injection h1 with h3 _ h4
    subst h3 h4
    have hcur : cur.size = cap := by rw [hsz, Nat.mul_one]
    have hBx : Box w g 3 cur.toList := by rw [Box, Array.toArray_toList]; exact hg
    have hsome : ∀ j, j < cap → (w.cell? ⟨g, j, none⟩).isSome = true := fun j hj => by
      rw [hBx.cell j, List.getElem?_eq_getElem (by simp; omega)]; rfl
    have hgv : vb ≠ g := fun e => hne (by rw [e]; rfl)
    by_cases hin : i = n
    · subst hin
      refine Calls.mono (Any2.slices_Insert_int_end_room Try.lays2_21 g 0 i cap vb 0 1 1 [.int .i64 x] w (by omega) hroom (by unfold maxLen at hcx; omega) hvl (fun j hj => hsome _ (by omega)) (fun j _ => hBx.frozen _) hvs h1v) ?_
      rintro e w' ⟨rfl, rfl⟩
      refine ⟨g, cap, rfl, .inr ⟨g, 0, rfl, ?_, fun j hj => ?_⟩, gb_setCells g _ _ _, .inl rfl⟩
      · exact Nat.lt_of_lt_of_le hBx.lt (gb_setCells g _ _ _).size
      · rw [insV_len (by omega)] at hj
        by_cases hji : j = i
        · subst hji
          rw [insV_eq (by omega)]
          have := World.cell?_setCells_in g [Value.int .i64 x] (0 + j) w (fun t ht => hsome _ (by simp at ht; omega)) 0 (by simp)
          simpa using this
        · rw [World.cell?_setCells_out g _ _ _ _ (fun _ _ => by show 0 + j < 0 + i ∨ _; omega), insV_lo (by omega) (by omega)]
          exact hcs g rfl j _ (map_get (by omega))
    · refine Calls.mono (Any2.slices_Insert_int_shift Try.lays2_21 g 0 n cap i vb 0 1 1 (xs.map (Value.int .i64)) [.int .i64 x] w (by omega) (by omega) hroom (by unfold maxLen at hcx; omega) hgv hcl hvl (hcs g rfl) (fun j hj => hsome _ (by omega)) (fun j _ => hBx.frozen _) hvs (ints_one _) h1v
        3 3 1 cap (by rw [Box] at hx; simp [World.shape?, hx]) (by simp [World.shape?, hg, hcur]) (by omega) (hx.frozen 0) (hx.frozen 1)) ?_
      rintro e w' ⟨rfl, rfl⟩
      have hs1 : ∀ j, j < cap → ((w.drew.setCells g (0 + (i + 1)) ((xs.map (Value.int .i64)).drop i)).cell? ⟨g, j, none⟩).isSome = true := fun j hj =>
        isSome_setCells g ((xs.map (Value.int .i64)).drop i) (0 + (i + 1)) w.drew (fun t ht => hsome _ (by rw [List.length_drop, hcl] at ht; omega)) j (hsome j hj)
      have hgb : w.grownBy ((w.drew.setCells g (0 + (i + 1)) ((xs.map (Value.int .i64)).drop i)).setCells g (0 + i) [.int .i64 x]) (some g) :=
        grownBy.trans' (grownBy.trans' (gb_dr (World.grownBy.refl _ _)) (gb_setCells g _ _ _)) (gb_setCells g _ _ _)
      refine ⟨g, cap, rfl, .inr ⟨g, 0, rfl, Nat.lt_of_lt_of_le hBx.lt hgb.size, fun j hj => ?_⟩, hgb, .inl rfl⟩
      rw [insV_len (by omega)] at hj
      by_cases hji : j = i
      · subst hji
        rw [insV_eq (by omega)]
        have := World.cell?_setCells_in g [Value.int .i64 x] (0 + j) _ (fun t ht => hs1 (0 + j + t) (by simp at ht; omega)) 0 (by simp)
        simpa using this
      · rw [World.cell?_setCells_out g _ (0 + i) _ _ (fun _ _ => by show 0 + j < 0 + i ∨ 0 + i + 1 ≤ 0 + j; omega)]
        by_cases hlt : j < i
        · rw [World.cell?_setCells_out g _ _ _ _ (fun _ _ => by show 0 + j < _ ∨ _; omega), insV_lo (by omega) hlt]
          exact hcs g rfl j _ (map_get (by omega))
        · have := World.cell?_setCells_in g ((xs.map (Value.int .i64)).drop i) (0 + (i + 1)) w.drew (fun t ht => hsome _ (by rw [List.length_drop, hcl] at ht; omega)) (j - (i + 1)) (by rw [List.length_drop, hcl]; omega)
          rw [show 0 + (i + 1) + (j - (i + 1)) = 0 + j by omega] at this
          rw [this, insV_hi (by omega) (by omega)]
          have e := map_get (xs := xs) (j := j - 1) (by omega)
          rw [← List.getElem?_eq_getElem, List.getElem?_drop, show i + (j - (i + 1)) = j - 1 by omega]
          exact e
  · have hcn : cap = n := by omega
    by_cases hin : i = n
    · subst hin
      refine Calls.mono (Any2.slices_Insert_int_end_grow Try.lays2_21 a i cap vb 0 1 1 (xs.map (Value.int .i64)) [.int .i64 x] w (by omega) (by omega) (by omega) (by omega) hcl hvl (fun ha => (own_none h ha).1) ?_ hvs h1v) ?_
      · intro p hp j v hj
        rcases hcells with hc | ⟨b', off, hab, _, hc⟩
        · rw [hc] at hj; simp at hj
        · rw [hp] at hab; cases hab
          have ea : (⟨b', off, none⟩ : Addr).add j = ⟨b', off + j, none⟩ := by
            unfold Addr.add
            split
            · rename_i hi0; subst hi0; rfl
            · rfl
          rw [ea]; exact hc j v hj
      rintro e w' ⟨rfl, rfl⟩
      have hgb : w.grownBy (w.drew.alloc (.cells ((xs.map (Value.int .i64) ++ [Value.int .i64 x]).toArray ++ Builtin.zeroCells (Value.int .i64 0).cells (grownCap w (i + 1) cap 3 - (i + 1))) 3)) (Value.slice a i cap).ownBlock :=
        gb_al (gb_dr (World.grownBy.refl _ _)) _
      refine ⟨_, _, rfl, .inr ⟨w.heap.size, 0, rfl, by simp, fun j hj => ?_⟩, hgb, .inr rfl⟩
      rw [insV_len (by omega)] at hj
      rw [Nat.zero_add, World.cell?_alloc_at (w := w.drew) _ _ w.heap.size j rfl, Array.getElem?_append_left (by simp; omega)]
      simp only [List.getElem?_toArray]
      by_cases hji : j = i
      · subst hji
        rw [insV_eq (by omega), List.getElem?_append_right (by simp; omega), hcl]; simp
      · rw [insV_lo (by omega) (by omega), List.getElem?_append_left (by simp; omega)]
        exact map_get (by omega)
    · have h0 : 0 < n := by omega
      obtain ⟨b, off, rfl, hbw, hcc⟩ : ∃ b off, a = some ⟨b, off, none⟩ ∧ b < w.heap.size ∧ off = 0 := by
        obtain ⟨g, c, hv, h5, h6⟩ := h.form h0
        injection hv with h7 _ _
        exact ⟨g, 0, h7, h6, rfl⟩
      subst hcc
      refine Calls.mono (Any2.slices_Insert_int_grow Try.lays2_21 b 0 n cap i vb 0 1 1 (xs.map (Value.int .i64)) [.int .i64 x] w (by omega) (by omega) (by omega) (by omega) (by omega) hcl hvl (hcs b rfl) hvs (ints_one _) h1v) ?_
      rintro e w' ⟨rfl, rfl⟩
      have hT : Try.lays2_21_ren.t 3 = 3 := rfl
      rw [hT]
      obtain ⟨ROW, hROW⟩ : ∃ ROW : Array Value, ROW = ((xs.map (Value.int .i64)).take i).toArray ++ Builtin.zeroCells (Value.int .i64 0).cells (n + 1 - i) ++ Builtin.zeroCells (Value.int .i64 0).cells (grownCap w (n + 1) cap 3 - (n + 1)) := ⟨_, rfl⟩
      rw [← hROW]
      have hRl : n + 1 ≤ ROW.size := by
        rw [hROW]
        simp [Builtin.zeroCells, Value.cells]
        omega
      have hs0 : ∀ j, j < n + 1 → ((w.alloc (.cells ROW 3)).cell? ⟨w.heap.size, j, none⟩).isSome = true := fun j hj => by
        rw [World.cell?_alloc_at (w := w) _ _ w.heap.size j rfl, Array.getElem?_eq_getElem (by omega)]; rfl
      have hs1 : ∀ j, j < n + 1 → (((w.alloc (.cells ROW 3)).drew.setCells w.heap.size i [.int .i64 x]).drew.cell? ⟨w.heap.size, j, none⟩).isSome = true := fun j hj =>
        isSome_setCells w.heap.size _ _ (w.alloc (.cells ROW 3)).drew (fun t ht => hs0 _ (by simp at ht; omega)) j (hs0 j hj)
      have hgb : w.grownBy ((((w.alloc (.cells ROW 3)).drew.setCells w.heap.size i [.int .i64 x]).drew).setCells w.heap.size (i + 1) ((xs.map (Value.int .i64)).drop i)) (Value.slice (some ⟨b, 0, none⟩) n cap).ownBlock := by
        have k1 : w.grownBy (w.alloc (.cells ROW 3)).drew none := gb_dr (gb_al (World.grownBy.refl _ _) _)
        have k2 := gb_new k1 (gb_setCells w.heap.size [Value.int .i64 x] i _) (fun b hb => by injection hb; omega)
        have k3 := gb_new (gb_dr k2) (gb_setCells w.heap.size ((xs.map (Value.int .i64)).drop i) (i + 1) _) (fun b hb => by injection hb; omega)
        exact ⟨k3.os, k3.tape, k3.output, k3.size, fun q hq _ => k3.block q hq (by simp)⟩
      refine ⟨_, _, rfl, .inr ⟨w.heap.size, 0, rfl, ?_, fun j hj => ?_⟩, hgb, .inr rfl⟩
      · exact Nat.lt_of_lt_of_le (show w.heap.size < (w.alloc (.cells ROW 3)).drew.heap.size by simp) (Nat.le_trans (gb_setCells w.heap.size [Value.int .i64 x] i _).size (gb_setCells w.heap.size ((xs.map (Value.int .i64)).drop i) (i + 1) ((w.alloc (.cells ROW 3)).drew.setCells w.heap.size i [.int .i64 x]).drew).size)
      · rw [insV_len (by omega)] at hj
        rw [Nat.zero_add]
        by_cases hji : i < j
        · have := World.cell?_setCells_in w.heap.size ((xs.map (Value.int .i64)).drop i) (i + 1) ((w.alloc (.cells ROW 3)).drew.setCells w.heap.size i [.int .i64 x]).drew (fun t ht => hs1 _ (by rw [List.length_drop, hcl] at ht; omega)) (j - (i + 1)) (by rw [List.length_drop, hcl]; omega)
          rw [show i + 1 + (j - (i + 1)) = j by omega] at this
          rw [this, insV_hi (by omega) hji]
          have e := map_get (xs := xs) (j := j - 1) (by omega)
          rw [← List.getElem?_eq_getElem, List.getElem?_drop, show i + (j - (i + 1)) = j - 1 by omega]
          exact e
        · rw [World.cell?_setCells_out w.heap.size _ (i + 1) _ _ (fun _ _ => by show j < i + 1 ∨ _; omega)]
          by_cases hje : j = i
          · subst hje
            rw [insV_eq (by omega)]
            have := World.cell?_setCells_in w.heap.size [Value.int .i64 x] j (w.alloc (.cells ROW 3)).drew (fun t ht => hs0 (j + t) (by simp at ht; omega)) 0 (by simp)
            simpa using this
          · have e1 := World.cell?_setCells_out w.heap.size [Value.int .i64 x] i (w.alloc (.cells ROW 3)).drew ⟨w.heap.size, j, none⟩ (fun _ _ => by show j < i ∨ _; omega)
            refine e1.trans ?_
            have e2 := World.cell?_alloc_at (w := w) ROW 3 w.heap.size j rfl
            refine e2.trans ?_
            rw [insV_lo (by omega) (by omega), hROW, Array.append_assoc, Array.getElem?_append_left (by simp; omega)]
            simp only [List.getElem?_toArray]
            rw [List.getElem?_take, if_pos (by omega)]
            exact map_get (by omega)
end Go.Proofs.Ytalalapjanckdaa
