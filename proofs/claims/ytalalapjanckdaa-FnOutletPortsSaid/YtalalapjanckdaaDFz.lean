/- The draw of a valid flow. No condition. -/
import Derived.Test.YtalalapjanckdaaMB
namespace Go.Proofs.Ytalalapjanckdaa
open Go.RowKit
variable {D : Nat}
theorem c_odd0 (g p : Nat) (w : World) (h : Rd D w g p) :
    Calls Try.prog 72 #[.pointer (some ⟨g, 0, none⟩), .int .i64 0] w fun e w' => e = .returned (.bool false) ∧ w' = w := by
  have HR := Lib.hid h
  clear h
  go_enter Try.func72, Try.ntmps72
  go_wp2_with fail
  go_ret
  exact ⟨rfl, rfl⟩
/-- A valid flow is drawn. -/
def RetDF0 (D : Nat) (w : World) (g p m : Nat) (e : Ending) (w' : World) : Prop :=
  ∃ x0 x1 x2 x3 x4 : Int, e = .returned (.agg #[.int .i64 x0, .int .i64 x1, .int .i64 x2, .int .i64 x3, .int .i64 x4]) ∧ fv (x0, x1, x2, x3, x4) = true ∧ (∃ p', p' ≤ p + m ∧ Rd D w' g p') ∧ w.grownBy w' (some g)
/-- What is said by hand of the flow that is made. -/
def FXz (B g : Nat) : List (Tmp × (Value → World → Prop)) :=
  [(32, fun v _ => ∃ x0 x1 x2 x3 x4 : Int, v = .agg #[.int .i64 x0, .int .i64 x1, .int .i64 x2, .int .i64 x3, .int .i64 x4] ∧ fv (x0, x1, x2, x3, x4) = true),
   (5, fun v w => ∃ b, v = .pointer (some ⟨b, 0, none⟩) ∧ B ≤ b ∧ b ≠ g ∧ w.heap[b]? = some (.cells #[.int .i64 0, .int .i64 0, .int .i64 0, .int .i64 0, .int .i64 0] 27 (0, 0)))]
theorem FXz.stable {B g : Nat} : ∀ q ∈ FXz B g, ∀ v w w', q.2 v w → w.grownBy w' (some g) → q.2 v w' := by
  intro q hq v w w' h hg
  simp only [FXz, List.mem_cons, List.not_mem_nil, or_false] at hq
  rcases hq with rfl | rfl
  · exact h
  · obtain ⟨b, h1, h2, h3, h4⟩ := h
    exact ⟨b, h1, h2, h3, (hg.block b (lt_of_heap h4) (fun e => h3 (by simpa using e))).trans h4⟩
set_option maxRecDepth 100000 in
set_option maxHeartbeats 4000000 in
theorem s_l20Flow0 (g p : Nat) (w : World) (h : Rd D w g p) (hp : p ≤ 50000) :
    Calls Try.prog 49 #[.pointer (some ⟨g, 0, none⟩), .int .i64 0] w (RetDF0 D w g p 40) := by
  have hglt := h.lt
  have hD0 : D ≤ w.heap.size := by have := h.1; omega
  have HR := Lib.hid h
  clear h
  go_enter Try.func49, Try.ntmps49
  go_wp2_with fail
  obtain ⟨W, hW, gW, sW, bW⟩ := head1 w 27 [.int .i64 0, .int .i64 0, .int .i64 0, .int .i64 0, .int .i64 0]
  rw [← hW]
  have HRW := Lib.hid (HR.out.keep (below_grown gW))
  have HG0 : Hid (w.grownBy W (some g)) := Lib.hid (by rw [hW]; exact grownBy_alloc w (some g) _)
  have HB0 := Lib.hid bW
  clear hW gW bW HR
  refine region_checked_x (D := D) _ 0 false 28 59 g p [(0, .rd)] [(0, .rd), (6, .rd), (7, .int 0 3), (8, .rd), (9, .int 0 255), (10, .sl [(80, 80), (443, 443), (0, 255)]), (11, .rd), (12, .int 0 2), (13, .pt 0 443), (14, .int 0 443), (15, .rd), (16, .int 0 3), (17, .sl [(0, 3), (255, 255)]), (18, .rd), (19, .int 0 5), (20, .int 0 1), (21, .pt 0 255), (22, .int 0 255), (23, .sl [(80, 80), (999, 999)]), (24, .rd), (25, .int 0 5), (26, .int 0 1), (27, .pt 80 999), (28, .int 80 999), (29, .rd), (30, .int 0 1), (31, .int 1 2), (32, .any), (5, .any)] [6, 7, 8, 9, 10, 11, 12, 13, 14, 15, 16, 17, 18, 19, 20, 21, 22, 23, 24, 25, 26, 27, 28, 29, 30, 31, 32, 5] [] (FXz W.heap.size g) [32, 5] [26, 27] rfl (by kernel_rfl) rfl FXz.stable (fun h => by cases h) ?_ HRW.out (by omega) ?_ ?_
  · intro q hq
    simp only [List.mem_cons, List.not_mem_nil, or_false] at hq
    subst hq
    rfl
  · intro i hi o d hin ho hd k a V hk hdef hfrm hdep hgr hV
    simp only [List.mem_cons, List.not_mem_nil, or_false] at hi
    rcases hi with rfl | rfl
    · injection ho with ho
      subst ho
      injection hd with hd
      subst hd
      obtain ⟨x0, e0, l0, u0⟩ := (hdep 7 (by kernel_rfl)).1
      obtain ⟨x1, e1, l1, u1⟩ := (hdep 14 (by kernel_rfl)).1
      obtain ⟨x2, e2, l2, u2⟩ := (hdep 22 (by kernel_rfl)).1
      obtain ⟨x3, e3, l3, u3⟩ := (hdep 28 (by kernel_rfl)).1
      obtain ⟨x4, e4, l4, u4⟩ := (hdep 31 (by kernel_rfl)).1
      refine wp_val2 rfl (run_bF _ _ _ _ _ _ _ _ _ _ _ _ _ rfl e0 e1 e2 e3 e4) ⟨_, rfl, ⟨trivial, (fun s hs => by cases hs), ?_⟩, grownBy_rfl _ _, let ⟨p', q1, q2⟩ := hV; ⟨p', by omega, q2⟩⟩
      intro q hq e
      simp only [FXz, List.mem_cons, List.not_mem_nil, or_false] at hq
      rcases hq with rfl | rfl
      · refine ⟨x0, x1, x2, x3, x4, rfl, ?_⟩
        simp only [fv, Bool.and_eq_true]
        exact ⟨⟨⟨⟨inB_true.2 ⟨by omega, by omega⟩, inB_true.2 ⟨by omega, by omega⟩⟩, inB_true.2 ⟨by omega, by omega⟩⟩, inB_true.2 ⟨by omega, by omega⟩⟩, inB_true.2 ⟨by omega, by omega⟩⟩
      · cases e
    · injection ho with ho
      subst ho
      injection hd with hd
      subst hd
      have hgl : g < V.heap.size := let ⟨_, _, h⟩ := hV; h.lt
      refine wp_val2 rfl (run_alF _ _ _ rfl) ⟨_, rfl, ⟨trivial, (fun s hs => by cases hs), ?_⟩, grownBy_alloc _ _ _, let ⟨p', q1, q2⟩ := hV; ⟨p', by omega, q2.keep (grownBy_alloc _ _ _)⟩⟩
      intro q hq e
      simp only [FXz, List.mem_cons, List.not_mem_nil, or_false] at hq
      rcases hq with rfl | rfl
      · cases e
      · exact ⟨V.heap.size, rfl, hgr.size, by omega, heap_alloc_new V _⟩
  intro f w1 hf hgr ⟨p1, hp1, hr1⟩
  obtain ⟨x0, x1, x2, x3, x4, e32, hfv⟩ := (hf 32 (by decide)).2.2 _ List.mem_cons_self rfl
  obtain ⟨b, e5, hBb, hbg, hh⟩ := (hf 5 (by decide)).2.2 _ (List.mem_cons_of_mem _ List.mem_cons_self) rfl
  have HH : Hid (Box w1 b 27 [.int .i64 0, .int .i64 0, .int .i64 0, .int .i64 0, .int .i64 0]) := Lib.hid hh
  have HG1 := Lib.hid (grownBy_tr HG0.out hgr)
  have HR1 := Lib.hid hr1
  have hgB : w.heap.size ≠ g := by omega
  have HB1 := Lib.hid (HB0.out.by hgr hgB)
  simp only [List.drop_succ_cons, List.drop_zero, putL, Act.put, List.setIfInBounds_toArray, List.set_cons_succ, List.set_cons_zero, e32, e5]
  clear hf hgr hr1 e32 e5 hh HG0 HB0 HRW
  obtain ⟨c0, c1, c2, c3, c4, cf⟩ := HH.out.five
  have hne0 : w.heap.size ≠ b := by omega
  have hDb : D ≤ b := by omega
  go_wp2_with fail
  obtain ⟨W2, hW2⟩ : ∃ W2, W2 = (((((w1.setCell ⟨b, 0, none⟩ (.int .i64 x0)).setCell ⟨b, 1, none⟩ (.int .i64 x1)).setCell ⟨b, 2, none⟩ (.int .i64 x2)).setCell ⟨b, 3, none⟩ (.int .i64 x3)).setCell ⟨b, 4, none⟩ (.int .i64 x4)) := ⟨_, rfl⟩
  have HT2 : Hid (Box W2 b 27 [.int .i64 x0, .int .i64 x1, .int .i64 x2, .int .i64 x3, .int .i64 x4]) := Lib.hid (by rw [hW2]; exact ((((HH.out.set 0 _).set 1 _).set 2 _).set 3 _).set 4 _)
  have HB2 : Hid (Box W2 w.heap.size 27 [.int .i64 0, .int .i64 0, .int .i64 0, .int .i64 0, .int .i64 0]) := Lib.hid (by rw [hW2]; exact ((((HB1.out.other hne0 _).other hne0 _).other hne0 _).other hne0 _).other hne0 _)
  have HG2 : Hid (w.grownBy W2 (some g)) := Lib.hid (by rw [hW2]; exact gb_set (gb_set (gb_set (gb_set (gb_set HG1.out (b := b) (by omega) 0 _) (b := b) (by omega) 1 _) (b := b) (by omega) 2 _) (b := b) (by omega) 3 _) (b := b) (by omega) 4 _)
  have HR2 : Hid (Rd D W2 g p1) := Lib.hid (by rw [hW2]; exact ((((HR1.out.other hDb hbg _ _).other hDb hbg _ _).other hDb hbg _ _).other hDb hbg _ _).other hDb hbg _ _)
  have HW2 := Lib.hid hW2
  clear hW2 HH HG1 HR1 HB1 c0 c1 c2 c3 c4 cf
  rw [← HW2.out]
  refine (c_odd0 g p1 _ HR2.out).mono ?_
  rintro e w3 ⟨rfl, rfl⟩
  have hb3 := HT2.out.lt
  have hw3 := HB2.out.lt
  obtain ⟨t0, t1, t2, t3, t4, tf⟩ := HT2.out.five
  obtain ⟨r0, r1, r2, r3, r4, rf⟩ := HB2.out.five
  have HFV := Lib.hid hfv
  clear hfv
  go_wp2
  refine bodyPost_ret (v := .agg #[.int .i64 x0, .int .i64 x1, .int .i64 x2, .int .i64 x3, .int .i64 x4]) (by simp [results, Try.results49, go_sem, r0, r1, r2, r3, r4]) rfl ?_
  exact ⟨_, _, _, _, _, rfl, HFV.out, ⟨p1, by omega, ((((HR2.out.other hD0 hgB _ _).other hD0 hgB _ _).other hD0 hgB _ _).other hD0 hgB _ _).other hD0 hgB _ _⟩, gb_set (gb_set (gb_set (gb_set (gb_set HG2.out (Nat.le_refl _) _ _) (Nat.le_refl _) _ _) (Nat.le_refl _) _ _) (Nat.le_refl _) _ _) (Nat.le_refl _) _ _⟩
end Go.Proofs.Ytalalapjanckdaa
