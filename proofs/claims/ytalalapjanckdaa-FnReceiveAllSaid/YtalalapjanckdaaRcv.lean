/- Receivers: copies and validity, of the program and of the reference. No condition but lists of at most 2^20 numbers. -/
import Derived.Test.YtalalapjanckdaaAppA
namespace Go.Proofs.Ytalalapjanckdaa
open Go.RowKit
theorem q_in (n lo hi : Int) (w : World) :
    Calls Try.prog 63 #[.int .i64 n, .int .i64 lo, .int .i64 hi] w fun e w' => e = .returned (.bool (inB n lo hi)) ∧ w' = w :=
  (c_in n lo hi w).mono fun _ _ ⟨h1, h2⟩ => ⟨h1, h2.symm⟩
theorem q_l1In' (n lo hi : Int) (w : World) :
    Calls Try.prog 73 #[.int .i64 n, .int .i64 lo, .int .i64 hi] w fun e w' => e = .returned (.bool (inB n lo hi)) ∧ w' = w :=
  (c_l1In n lo hi w).mono fun _ _ ⟨h1, h2⟩ => ⟨h1, h2.symm⟩
theorem c_isTime (t : Int) (w : World) : Calls Try.prog 70 #[.int .i64 t] w fun e w' => e = .returned (.bool (inB t 0 100000)) ∧ w = w' := by
  go_enter Try.func70, Try.ntmps70
  go_wp2_with (go_at_call 63; refine (c_in _ _ _ _).mono ?_; rintro e w' ⟨rfl, rfl⟩)
  go_ret
  exact ⟨rfl, rfl⟩
theorem row_wider {w : World} {B B' n : Nat} {e : TypeId} {size : Nat} {v : Value} {vs : List Value} (h : w.ownsRow B e size v n vs) (hB : B' ≤ B) : w.ownsRow B' e size v n vs :=
  ⟨h.1, h.2.imp id fun ⟨g, c, cur, h1, hb, r⟩ => ⟨g, c, cur, h1, Nat.le_trans hB hb, r⟩⟩
theorem gb_setp (w : World) (p : Addr) (u : Value) : w.grownBy (w.setCell p u) (some p.block) :=
  ⟨rfl, rfl, rfl, by simp, fun k _ hk => Below.heap_setCell w p u k (fun e => hk (by rw [e]))⟩
theorem row_set {w : World} {base n : Nat} {e : TypeId} {size : Nat} {v : Value} {vs : List Value} (h : w.ownsRow base e size v n vs) (p : Addr) (u : Value) (hp : v.ownBlock ≠ some p.block) : (w.setCell p u).ownsRow base e size v n vs :=
  row_kept h (gb_setp w p u) fun _ hk e => hp (by rw [hk, e])
theorem Box.three {w : World} {g T : Nat} {a b c : Value} (h : Box w g T [a, b, c]) : w.cell? ⟨g, 0, none⟩ = some a ∧ w.cell? ⟨g, 1, none⟩ = some b ∧ w.cell? ⟨g, 2, none⟩ = some c ∧ ∀ i, w.frozen? ⟨g, i, none⟩ = false :=
  ⟨h.cell 0, h.cell 1, h.cell 2, fun i => h.frozen i⟩
/-- A receiver's copy is handed back: its list is a new one. -/
def RetRcv (w : World) (N R : Int) (xs : List Int) (e : Ending) (w' : World) : Prop :=
  ∃ (a : Option Addr) (cap : Nat), e = .returned (.agg #[.int .i64 N, .int .i64 R, .slice a xs.length cap]) ∧ w'.ownsRow w.heap.size 3 1 (.slice a xs.length cap) xs.length (xs.map (Value.int .i64)) ∧ w.grownBy w' none
set_option maxHeartbeats 800000 in
theorem c_cloneR (N R : Int) (a : Option Addr) (n cap : Nat) (xs : List Int) (w : World) (hxs : xs.length = n) (hn : n ≤ 1048576) (h : Ints w a xs) (ha : a = none → n = 0 ∧ cap = 0) :
    Calls Try.prog 65 #[.agg #[.int .i64 N, .int .i64 R, .slice a n cap]] w (RetRcv w N R xs) := by
  have g0 : Below w.heap.size w ((w.alloc (.cells #[.int .i64 N, .int .i64 R, .slice a n cap] 52)).alloc (.cells #[.int .i64 0, .int .i64 0, .slice none 0 0] 52)) := ((Below.refl _ _).alloc (Nat.le_refl _) _).alloc (by simp) _
  have HX := Lib.hid hxs
  have HG := Lib.hid g0
  have HI := Lib.hid h.vals
  have HA := Lib.hid ha
  clear g0 h ha hxs
  go_enter Try.func65, Try.ntmps65
  go_wp2_with (at_builtin; refine wpl_appA _ rfl elemI (.const (.slice none 0 0)) (.tmp 4) rfl w.heap.size (.slice none 0 0) 0 [] rfl (row_nil _ _ _ _) a n cap (xs.map (Value.int .i64)) rfl (HI.out.below HG.out) (by rw [List.length_map, HX.out, Nat.mul_one]) (ints_one _) HA.out (by omega) (by simp; omega) n (Nat.zero_add n) (xs.map (Value.int .i64)) rfl ?_)
  intro a' cap' w1 ho hg hat
  have HO := Lib.hid ho
  have HT := Lib.hid hat
  have HB := Lib.hid (grown_below hg)
  clear ho hg hat
  have hz1 := HB.out.size
  simp only [World.size_alloc] at hz1
  obtain ⟨x0, x1, x2, fx⟩ := (((Box.new w 52 [.int .i64 N, .int .i64 R, .slice a n cap]).alloc _).keep HB.out).three
  obtain ⟨y0, y1, y2, fy⟩ := ((Box.new2 (w.alloc (.cells #[.int .i64 N, .int .i64 R, .slice a n cap] 52)) 52 [.int .i64 0, .int .i64 0, .slice none 0 0] (w.heap.size + 1) (by simp)).keep HB.out).three
  go_wp2
  have hq : Below w.heap.size w w1 := HG.out.trans (HB.out.mono (by simp; omega))
  have hblk : (Value.slice a' n cap').ownBlock ≠ some w.heap.size ∧ (Value.slice a' n cap').ownBlock ≠ some (w.heap.size + 1) := by
    have ht := HT.out
    rcases ht with h | h
    · rw [h]; exact ⟨by simp [Value.ownBlock], by simp [Value.ownBlock]⟩
    · rw [h]; exact ⟨fun e => by injection e; omega, fun e => by injection e; omega⟩
  refine bodyPost_ret (v := .agg #[.int .i64 N, .int .i64 R, .slice a' n cap']) (by simp [results, Try.results65, go_sem, y0, y1, y2]) rfl ?_
  obtain rfl := HX.out
  refine ⟨a', cap', rfl, ?_, below_grown ?_⟩
  · exact row_set (row_set (row_set (row_set HO.out _ _ hblk.1) _ _ hblk.2) _ _ hblk.2) _ _ hblk.2
  · go_grown
/-- .. and it is not nil. -/
def RetRcvN (w : World) (N R : Int) (xs : List Int) (e : Ending) (w' : World) : Prop :=
  ∃ (a : Option Addr) (cap : Nat), e = .returned (.agg #[.int .i64 N, .int .i64 R, .slice a xs.length cap]) ∧ w'.ownsRow w.heap.size 3 1 (.slice a xs.length cap) xs.length (xs.map (Value.int .i64)) ∧ w.grownBy w' none ∧ ∃ g, a = some ⟨g, 0, none⟩
theorem own_some {w : World} {base n cap : Nat} {e : TypeId} {size : Nat} {a : Option Addr} {vs : List Value} {k : Nat} (h : w.ownsRow base e size (.slice a n cap) n vs) (hk : (Value.slice a n cap).ownBlock = some k) : a = some ⟨k, 0, none⟩ := by
  rcases h.2 with ⟨h1, h2⟩ | ⟨g, c, cur, h1, _⟩
  · rw [h1] at hk; simp [Value.ownBlock] at hk
  · injection h1 with h3
    subst h3
    have e2 : some g = some k := hk
    injection e2 with e2
    rw [e2]
set_option maxHeartbeats 800000 in
theorem s_ownR (N R : Int) (a : Option Addr) (n cap : Nat) (xs : List Int) (w : World) (hxs : xs.length = n) (hn : n ≤ 1048576) (h : Ints w a xs) (ha : a = none → n = 0 ∧ cap = 0) :
    Calls Try.prog 68 #[.agg #[.int .i64 N, .int .i64 R, .slice a n cap]] w (RetRcvN w N R xs) := by
  obtain ⟨W0, hW0⟩ : ∃ W0, W0 = ((((w.alloc (.cells #[.int .i64 N, .int .i64 R, .slice a n cap] 52)).alloc (.cells #[.int .i64 0, .int .i64 0, .slice none 0 0] 52)).alloc (.cells #[.int .i64 N, .int .i64 R, .slice a n cap] 52)).alloc (.cells #[] 3)) := ⟨_, rfl⟩
  have g0 : Below w.heap.size w W0 := by
    rw [hW0]
    exact (((((Below.refl _ _).alloc (Nat.le_refl _) _).alloc (by simp) _).alloc (by simp; omega) _).alloc (by simp; omega) _)
  have hs0 : W0.heap.size = w.heap.size + 4 := by rw [hW0]; simp
  have hx0 : Box W0 w.heap.size 52 [.int .i64 N, .int .i64 R, .slice a n cap] := by
    rw [hW0]; exact (((Box.new w _ _).alloc _).alloc _).alloc _
  have hy0 : Box W0 (w.heap.size + 1) 52 [.int .i64 0, .int .i64 0, .slice none 0 0] := by
    rw [hW0]; exact ((Box.new2 _ _ _ _ (by simp)).alloc _).alloc _
  have hu0 : Box W0 (w.heap.size + 2) 52 [.int .i64 N, .int .i64 R, .slice a n cap] := by
    rw [hW0]; exact (Box.new2 _ _ _ _ (by simp)).alloc _
  have hr0 : W0.ownsRow (w.heap.size + 3) 3 1 (.slice (some ⟨w.heap.size + 3, 0, none⟩) 0 0) 0 [] := by
    rw [hW0]; exact row_emp _ _ _ _ (by simp) (Nat.le_refl _)
  have HX := Lib.hid hxs
  have HG := Lib.hid g0
  have HS := Lib.hid hs0
  have HR0 := Lib.hid hr0
  have HI := Lib.hid h.vals
  have HA := Lib.hid ha
  have HQ := Lib.hid hx0
  have HY := Lib.hid hy0
  have HU := Lib.hid hu0
  have HW := Lib.hid hW0
  clear g0 h ha hxs hs0 hr0 hx0 hy0 hu0 hW0
  go_enter Try.func68, Try.ntmps68
  go_wp2_with (at_builtin; rw [← HW.out]; refine wpl_appA _ rfl elemI (.tmp 5) (.tmp 7) rfl (w.heap.size + 3) (.slice (some ⟨w.heap.size + 3, 0, none⟩) 0 0) 0 [] rfl HR0.out a n cap (xs.map (Value.int .i64)) rfl (HI.out.below HG.out) (by rw [List.length_map, HX.out, Nat.mul_one]) (ints_one _) HA.out (by omega) (by rw [HS.out]; omega) n (Nat.zero_add n) (xs.map (Value.int .i64)) rfl ?_)
  intro a' cap' w1 ho hg hat
  have HO := Lib.hid ho
  have HT := Lib.hid hat
  have HB : Hid (Below (w.heap.size + 3) W0 w1) := Lib.hid ((Below.refl _ _).grown hg (by rw [HS.out]; omega) (fun g h => by simp [Value.ownBlock] at h; omega))
  clear ho hg hat
  have hz1 := HB.out.size
  have hs := HS.out
  obtain ⟨x0, x1, x2, fx⟩ := (HQ.out.below HB.out (by omega)).three
  obtain ⟨y0, y1, y2, fy⟩ := (HY.out.below HB.out (by omega)).three
  obtain ⟨u0, u1, u2, fu⟩ := (HU.out.below HB.out (by omega)).three
  rw [hs] at hz1
  clear hs
  go_wp2
  have hq : Below w.heap.size w w1 := HG.out.trans (HB.out.mono (by omega))
  have hblk : (Value.slice a' n cap').ownBlock ≠ some (w.heap.size + 1) ∧ (Value.slice a' n cap').ownBlock ≠ some (w.heap.size + 2) := by
    rcases HT.out with h | h
    · rw [h]; exact ⟨fun e => by simp [Value.ownBlock] at e, fun e => by simp [Value.ownBlock] at e⟩
    · rw [h, HS.out]; exact ⟨fun e => by injection e; omega, fun e => by injection e; omega⟩
  refine bodyPost_ret (v := .agg #[.int .i64 N, .int .i64 R, .slice a' n cap']) (by simp [results, Try.results68, go_sem, y0, y1, y2]) rfl ?_
  obtain rfl := HX.out
  have hsm : ∃ g, a' = some ⟨g, 0, none⟩ := by
    rcases HT.out with h | h
    · exact ⟨_, own_some HO.out (h.trans rfl)⟩
    · exact ⟨_, own_some HO.out h⟩
  refine ⟨a', cap', rfl, ?_, below_grown ?_, hsm⟩
  · exact row_wider (row_set (row_set (row_set (row_set HO.out _ _ hblk.2) _ _ hblk.1) _ _ hblk.1) _ _ hblk.1) (by omega)
  · go_grown
end Go.Proofs.Ytalalapjanckdaa
