/- Texts laid together (Flo, DFlo, FloE, FlwE, Seen, Feq, OutA, OutV, OutW, OutC). No condition but what each theorem says. -/
import Derived.Test.YtalalapjanckdaaMG
import Derived.Test.YtalalapjanckdaaMA
import Derived.Maps.Views
/- Flows as five numbers: values, contracts of FlowValid, of the program and of the reference. No condition. -/
namespace Go.Proofs.Ytalalapjanckdaa
open Go.RowKit
/-- A flow: from, from's port, to, to's port, kind. -/
abbrev F5 := Int × Int × Int × Int × Int
def fI (f : F5) : List Int := [f.1, f.2.1, f.2.2.1, f.2.2.2.1, f.2.2.2.2]
def fvv (f : F5) : Value := .agg #[.int .i64 f.1, .int .i64 f.2.1, .int .i64 f.2.2.1, .int .i64 f.2.2.2.1, .int .i64 f.2.2.2.2]
/-- A flow is valid. -/
def fv (f : F5) : Bool := inB f.1 0 255 && inB f.2.2.1 0 255 && inB f.2.1 0 999 && inB f.2.2.2.1 0 999 && inB f.2.2.2.2 1 2
set_option maxHeartbeats 2000000 in
theorem c_FlowValid (f : F5) (w : World) : Calls Try.prog 50 #[fvv f] w fun e w' => e = .returned (.bool (fv f)) ∧ Below w.heap.size w w' := by
  have HR : Hid (fv f = (inB f.1 0 255 && inB f.2.2.1 0 255 && inB f.2.1 0 999 && inB f.2.2.2.1 0 999 && inB f.2.2.2.2 1 2)) := Lib.hid rfl
  obtain ⟨a, b, c, d, k⟩ := f
  unfold fvv
  have g0 : Below w.heap.size w (w.alloc (.cells #[.int .i64 a, .int .i64 b, .int .i64 c, .int .i64 d, .int .i64 k] 27)) := (Below.refl _ _).alloc (Nat.le_refl _) _
  cases h1 : inB a 0 255
  · go_enter Try.func50, Try.ntmps50
    go_wp2_with (go_at_call 63; refine (c_in _ _ _ _).mono ?_; rintro e w' ⟨rfl, rfl⟩)
    go_ret
    exact ⟨ret_bool (by rw [HR.out]; simp only [h1]; rfl), g0⟩
  cases h2 : inB c 0 255
  · go_enter Try.func50, Try.ntmps50
    go_wp2_with (go_at_call 63; refine (c_in _ _ _ _).mono ?_; rintro e w' ⟨rfl, rfl⟩)
    go_ret
    exact ⟨ret_bool (by rw [HR.out]; simp only [h1, h2]; rfl), g0⟩
  cases h3 : inB b 0 999
  · go_enter Try.func50, Try.ntmps50
    go_wp2_with (go_at_call 63; refine (c_in _ _ _ _).mono ?_; rintro e w' ⟨rfl, rfl⟩)
    go_ret
    exact ⟨ret_bool (by rw [HR.out]; simp only [h1, h2, h3]; rfl), g0⟩
  cases h4 : inB d 0 999
  · go_enter Try.func50, Try.ntmps50
    go_wp2_with (go_at_call 63; refine (c_in _ _ _ _).mono ?_; rintro e w' ⟨rfl, rfl⟩)
    go_ret
    exact ⟨ret_bool (by rw [HR.out]; simp only [h1, h2, h3, h4]; rfl), g0⟩
  go_enter Try.func50, Try.ntmps50
  go_wp2_with (go_at_call 63; refine (c_in _ _ _ _).mono ?_; rintro e w' ⟨rfl, rfl⟩)
  go_ret
  exact ⟨ret_bool (by rw [HR.out]; simp only [h1, h2, h3, h4]; rfl), g0⟩
set_option maxHeartbeats 2000000 in
theorem s_FlowValid (f : F5) (w : World) : Calls Try.prog 54 #[fvv f] w fun e w' => e = .returned (.bool (fv f)) ∧ Below w.heap.size w w' := by
  have HR : Hid (fv f = (inB f.1 0 255 && inB f.2.2.1 0 255 && inB f.2.1 0 999 && inB f.2.2.2.1 0 999 && inB f.2.2.2.2 1 2)) := Lib.hid rfl
  obtain ⟨a, b, c, d, k⟩ := f
  unfold fvv
  have g0 : Below w.heap.size w (w.alloc (.cells #[.int .i64 a, .int .i64 b, .int .i64 c, .int .i64 d, .int .i64 k] 27)) := (Below.refl _ _).alloc (Nat.le_refl _) _
  cases h1 : inB a 0 255
  · go_enter Try.func54, Try.ntmps54
    go_wp2_with (go_at_call 73; refine (c_l1In _ _ _ _).mono ?_; rintro e w' ⟨rfl, rfl⟩)
    go_ret
    exact ⟨ret_bool (by rw [HR.out]; simp only [h1]; rfl), g0⟩
  cases h2 : inB c 0 255
  · go_enter Try.func54, Try.ntmps54
    go_wp2_with (go_at_call 73; refine (c_l1In _ _ _ _).mono ?_; rintro e w' ⟨rfl, rfl⟩)
    go_ret
    exact ⟨ret_bool (by rw [HR.out]; simp only [h1, h2]; rfl), g0⟩
  cases h3 : inB b 0 999
  · go_enter Try.func54, Try.ntmps54
    go_wp2_with (go_at_call 73; refine (c_l1In _ _ _ _).mono ?_; rintro e w' ⟨rfl, rfl⟩)
    go_ret
    exact ⟨ret_bool (by rw [HR.out]; simp only [h1, h2, h3]; rfl), g0⟩
  cases h4 : inB d 0 999
  · go_enter Try.func54, Try.ntmps54
    go_wp2_with (go_at_call 73; refine (c_l1In _ _ _ _).mono ?_; rintro e w' ⟨rfl, rfl⟩)
    go_ret
    exact ⟨ret_bool (by rw [HR.out]; simp only [h1, h2, h3, h4]; rfl), g0⟩
  go_enter Try.func54, Try.ntmps54
  go_wp2_with (go_at_call 73; refine (c_l1In _ _ _ _).mono ?_; rintro e w' ⟨rfl, rfl⟩)
  go_ret
  exact ⟨ret_bool (by rw [HR.out]; simp only [h1, h2, h3, h4]; rfl), g0⟩
/-! ### the map of flows that were seen -/
theorem laidM : laidOutB Try.prog = true := by kernel_rfl
theorem flowRow : (27 : TypeId) < Try.prog.types.size := of_decide_eq_true (by kernel_rfl)
theorem m3 : 2 + 1 ≤ 10000 := by omega
theorem flowKt : Try.prog.keyTypeAt 2 27 = true := by kernel_rfl
theorem flowLaw : Go.WideMaps.KeyLaw Try.prog 27 := deep_law_laid (m := 2) (k := 27) laidM m3 flowRow flowKt (by kernel_rfl)
theorem flowKeyed : Go.Maps.Keyed Try.prog 27 := Go.Maps.Keyed.of_law flowLaw
end Go.Proofs.Ytalalapjanckdaa
/- The draw of a flow: whatever is drawn is a flow; besides the reader nothing that was there has turned. No condition. -/
namespace Go.Proofs.Ytalalapjanckdaa
open Go.RowKit
variable {D : Nat}
theorem run_bF (o : Oper) (ρ : Operand → Value) (w : World) (x0 x1 x2 x3 x4 : Operand) (m0 m1 m2 m3 m4 : Int) (ho : o.op = .build 27 #[(0, x0), (1, x1), (2, x2), (3, x3), (4, x4)]) (h0 : ρ x0 = .int .i64 m0) (h1 : ρ x1 = .int .i64 m1) (h2 : ρ x2 = .int .i64 m2) (h3 : ρ x3 = .int .i64 m3) (h4 : ρ x4 = .int .i64 m4) :
    (execOp ρ o).run Try.prog w = .ok (.value (.agg #[.int .i64 m0, .int .i64 m1, .int .i64 m2, .int .i64 m3, .int .i64 m4])) w := by
  simp [execOp, ho, h0, h1, h2, h3, h4, go_sem]
theorem run_alF (o : Oper) (ρ : Operand → Value) (w : World) (ho : o.op = .alloc 27) :
    (execOp ρ o).run Try.prog w = .ok (.value (.pointer (some ⟨w.heap.size, 0, none⟩))) (w.alloc (.cells #[.int .i64 0, .int .i64 0, .int .i64 0, .int .i64 0, .int .i64 0] 27)) := by
  simp [execOp, ho, go_sem]
/-- A flow is drawn. -/
def RetDF (D : Nat) (w : World) (g p m : Nat) (e : Ending) (w' : World) : Prop :=
  ∃ x0 x1 x2 x3 x4 : Int, e = .returned (.agg #[.int .i64 x0, .int .i64 x1, .int .i64 x2, .int .i64 x3, .int .i64 x4]) ∧ (∃ p', p' ≤ p + m ∧ Rd D w' g p') ∧ w.grownBy w' (some g)
/-- What is said by hand of the flow that is made. -/
def FX (B g : Nat) : List (Tmp × (Value → World → Prop)) :=
  [(32, fun v _ => ∃ x0 x1 x2 x3 x4 : Int, v = .agg #[.int .i64 x0, .int .i64 x1, .int .i64 x2, .int .i64 x3, .int .i64 x4]),
   (5, fun v w => ∃ b, v = .pointer (some ⟨b, 0, none⟩) ∧ B ≤ b ∧ b ≠ g ∧ w.heap[b]? = some (.cells #[.int .i64 0, .int .i64 0, .int .i64 0, .int .i64 0, .int .i64 0] 27 (0, 0)))]
theorem FX.stable {B g : Nat} : ∀ q ∈ FX B g, ∀ v w w', q.2 v w → w.grownBy w' (some g) → q.2 v w' := by
  intro q hq v w w' h hg
  simp only [FX, List.mem_cons, List.not_mem_nil, or_false] at hq
  rcases hq with rfl | rfl
  · exact h
  · obtain ⟨b, h1, h2, h3, h4⟩ := h
    exact ⟨b, h1, h2, h3, (hg.block b (lt_of_heap h4) (fun e => h3 (by simpa using e))).trans h4⟩
set_option maxRecDepth 100000 in
set_option maxHeartbeats 4000000 in
theorem s_l20Flow (g p : Nat) (n : Int) (w : World) (h : Rd D w g p) (hp : p ≤ 50000) (n1 : 0 ≤ n) (n2 : n ≤ 1000) :
    Calls Try.prog 49 #[.pointer (some ⟨g, 0, none⟩), .int .i64 n] w (RetDF D w g p 40) := by
  have hglt := h.lt
  have hD0 : D ≤ w.heap.size := by have := h.1; omega
  have HR := Lib.hid h
  clear h
  go_enter Try.func49, Try.ntmps49
  go_wp2_with fail
  obtain ⟨W, hW, gW, sW, bW⟩ := head1 w 27 [.int .i64 0, .int .i64 0, .int .i64 0, .int .i64 0, .int .i64 0]
  rw [← hW]
  have HRW := Lib.hid (HR.out.keep (below_grown gW))
  have HG0 : Hid (w.grownBy W (some g)) := Lib.hid (by rw [hW]; exact grownBy_alloc w (some g) _)
  have HB0 := Lib.hid bW
  clear hW gW bW HR
  refine region_checked_x (D := D) _ 0 false 28 59 g p [(0, .rd)] [(0, .rd), (6, .rd), (7, .int 0 3), (8, .rd), (9, .int 0 255), (10, .sl [(80, 80), (443, 443), (0, 255)]), (11, .rd), (12, .int 0 2), (13, .pt 0 443), (14, .int 0 443), (15, .rd), (16, .int 0 3), (17, .sl [(0, 3), (255, 255)]), (18, .rd), (19, .int 0 5), (20, .int 0 1), (21, .pt 0 255), (22, .int 0 255), (23, .sl [(80, 80), (999, 999)]), (24, .rd), (25, .int 0 5), (26, .int 0 1), (27, .pt 80 999), (28, .int 80 999), (29, .rd), (30, .int 0 1), (31, .int 1 2), (32, .any), (5, .any)] [6, 7, 8, 9, 10, 11, 12, 13, 14, 15, 16, 17, 18, 19, 20, 21, 22, 23, 24, 25, 26, 27, 28, 29, 30, 31, 32, 5] [] (FX W.heap.size g) [32, 5] [26, 27] rfl (by kernel_rfl) rfl FX.stable (fun h => by cases h) ?_ HRW.out (by omega) ?_ ?_
  · intro q hq
    simp only [List.mem_cons, List.not_mem_nil, or_false] at hq
    subst hq
    rfl
  · intro i hi o d hin ho hd k a V hk hdef hfrm hdep hgr hV
    simp only [List.mem_cons, List.not_mem_nil, or_false] at hi
    rcases hi with rfl | rfl
    · injection ho with ho
      subst ho
      injection hd with hd
      subst hd
      obtain ⟨x0, e0, _, _⟩ := (hdep 7 (by kernel_rfl)).1
      obtain ⟨x1, e1, _, _⟩ := (hdep 14 (by kernel_rfl)).1
      obtain ⟨x2, e2, _, _⟩ := (hdep 22 (by kernel_rfl)).1
      obtain ⟨x3, e3, _, _⟩ := (hdep 28 (by kernel_rfl)).1
      obtain ⟨x4, e4, _, _⟩ := (hdep 31 (by kernel_rfl)).1
      refine wp_val2 rfl (run_bF _ _ _ _ _ _ _ _ _ _ _ _ _ rfl e0 e1 e2 e3 e4) ⟨_, rfl, ⟨trivial, (fun s hs => by cases hs), ?_⟩, grownBy_rfl _ _, let ⟨p', q1, q2⟩ := hV; ⟨p', by omega, q2⟩⟩
      intro q hq e
      simp only [FX, List.mem_cons, List.not_mem_nil, or_false] at hq
      rcases hq with rfl | rfl
      · exact ⟨x0, x1, x2, x3, x4, rfl⟩
      · cases e
    · injection ho with ho
      subst ho
      injection hd with hd
      subst hd
      have hgl : g < V.heap.size := let ⟨_, _, h⟩ := hV; h.lt
      refine wp_val2 rfl (run_alF _ _ _ rfl) ⟨_, rfl, ⟨trivial, (fun s hs => by cases hs), ?_⟩, grownBy_alloc _ _ _, let ⟨p', q1, q2⟩ := hV; ⟨p', by omega, q2.keep (grownBy_alloc _ _ _)⟩⟩
      intro q hq e
      simp only [FX, List.mem_cons, List.not_mem_nil, or_false] at hq
      rcases hq with rfl | rfl
      · cases e
      · exact ⟨V.heap.size, rfl, hgr.size, by omega, heap_alloc_new V _⟩
  intro f w1 hf hgr ⟨p1, hp1, hr1⟩
  obtain ⟨x0, x1, x2, x3, x4, e32⟩ := (hf 32 (by decide)).2.2 _ List.mem_cons_self rfl
  obtain ⟨b, e5, hBb, hbg, hh⟩ := (hf 5 (by decide)).2.2 _ (List.mem_cons_of_mem _ List.mem_cons_self) rfl
  have HH : Hid (Box w1 b 27 [.int .i64 0, .int .i64 0, .int .i64 0, .int .i64 0, .int .i64 0]) := Lib.hid hh
  have HG1 := Lib.hid (grownBy_tr HG0.out hgr)
  have HR1 := Lib.hid hr1
  have hgB : w.heap.size ≠ g := by omega
  have HB1 := Lib.hid (HB0.out.by hgr hgB)
  simp only [List.drop_succ_cons, List.drop_zero, putL, Act.put, List.setIfInBounds_toArray, List.set_cons_succ, List.set_cons_zero, e32, e5]
  clear hf hgr hr1 e32 e5 hh HG0 HB0 HRW
  obtain ⟨c0, c1, c2, c3, c4, cf⟩ := HH.out.five
  have hne0 : w.heap.size ≠ b := by omega
  have hDb : D ≤ b := by omega
  go_wp2_with fail
  obtain ⟨W2, hW2⟩ : ∃ W2, W2 = (((((w1.setCell ⟨b, 0, none⟩ (.int .i64 x0)).setCell ⟨b, 1, none⟩ (.int .i64 x1)).setCell ⟨b, 2, none⟩ (.int .i64 x2)).setCell ⟨b, 3, none⟩ (.int .i64 x3)).setCell ⟨b, 4, none⟩ (.int .i64 x4)) := ⟨_, rfl⟩
  have HT2 : Hid (Box W2 b 27 [.int .i64 x0, .int .i64 x1, .int .i64 x2, .int .i64 x3, .int .i64 x4]) := Lib.hid (by rw [hW2]; exact ((((HH.out.set 0 _).set 1 _).set 2 _).set 3 _).set 4 _)
  have HB2 : Hid (Box W2 w.heap.size 27 [.int .i64 0, .int .i64 0, .int .i64 0, .int .i64 0, .int .i64 0]) := Lib.hid (by rw [hW2]; exact ((((HB1.out.other hne0 _).other hne0 _).other hne0 _).other hne0 _).other hne0 _)
  have HG2 : Hid (w.grownBy W2 (some g)) := Lib.hid (by rw [hW2]; exact gb_set (gb_set (gb_set (gb_set (gb_set HG1.out (b := b) (by omega) 0 _) (b := b) (by omega) 1 _) (b := b) (by omega) 2 _) (b := b) (by omega) 3 _) (b := b) (by omega) 4 _)
  have HR2 : Hid (Rd D W2 g p1) := Lib.hid (by rw [hW2]; exact ((((HR1.out.other hDb hbg _ _).other hDb hbg _ _).other hDb hbg _ _).other hDb hbg _ _).other hDb hbg _ _)
  have HW2 := Lib.hid hW2
  clear hW2 HH HG1 HR1 HB1 c0 c1 c2 c3 c4 cf
  rw [← HW2.out]
  refine (c_odd g p1 n _ HR2.out (by omega) (by omega) (by omega)).mono ?_
  rintro e w3 ⟨od, rfl, ⟨p3, hp3, hr3⟩, hg3⟩
  have HG3 := Lib.hid (grownBy_tr HG2.out hg3)
  have HB3 := Lib.hid (HB2.out.by hg3 hgB)
  have HT3 := Lib.hid (HT2.out.by hg3 hbg)
  have HR3 := Lib.hid hr3
  clear hg3 hr3 HG2 HB2 HT2 HR2 HW2
  have hb3 := HT3.out.lt
  have hw3 := HB3.out.lt
  cases od
  · skip
    obtain ⟨t0, t1, t2, t3, t4, tf⟩ := HT3.out.five
    obtain ⟨r0, r1, r2, r3, r4, rf⟩ := HB3.out.five
    go_wp2
    refine bodyPost_ret (v := .agg #[.int .i64 x0, .int .i64 x1, .int .i64 x2, .int .i64 x3, .int .i64 x4]) (by simp [results, Try.results49, go_sem, r0, r1, r2, r3, r4]) rfl ?_
    exact ⟨_, _, _, _, _, rfl, ⟨p3, by omega, ((((HR3.out.other hD0 hgB _ _).other hD0 hgB _ _).other hD0 hgB _ _).other hD0 hgB _ _).other hD0 hgB _ _⟩, gb_set (gb_set (gb_set (gb_set (gb_set HG3.out (Nat.le_refl _) _ _) (Nat.le_refl _) _ _) (Nat.le_refl _) _ _) (Nat.le_refl _) _ _) (Nat.le_refl _) _ _⟩
  · go_wp2_with fail
    refine (c_pick g p3 4 _ HR3.out (by omega) (by omega) (by omega)).mono ?_
    rintro e w4 ⟨x, rfl, y1, y2, _, hr4, hg4⟩
    have y3 := y2 (by omega)
    have HR4 := Lib.hid hr4
    have HG4 := Lib.hid (grownBy_tr HG3.out hg4)
    have HB4 := Lib.hid (HB3.out.by hg4 hgB)
    have HT4 := Lib.hid (HT3.out.by hg4 hbg)
    clear hg4 hr4 y2 HB3 HT3 HG3 HR3
    have hb4 := HT4.out.lt
    have hw4 := HB4.out.lt
    have hg4' := HR4.out.lt
    have hx : x = 0 ∨ x = 1 ∨ x = 2 ∨ x = 3 := by omega
    clear y1 y3
    rcases hx with rfl | rfl | rfl | rfl
    · go_wp2_with fail
      refine (c_pick g (p3 + 1) 2 _ (HR4.out.keep (grownBy_alloc _ _ _)) (by omega) (by omega) (by omega)).mono ?_
      rintro e w5 ⟨t, rfl, y1, y2, _, hr5, hg5⟩
      have y3 := y2 (by omega)
      have HR5 := Lib.hid hr5
      have HG5 := Lib.hid (grownBy_tr (gb_alloc HG4.out _) hg5)
      have HB5 := Lib.hid ((HB4.out.alloc (.cells #[.int .i64 (-1), .int .i64 256] 3)).by hg5 hgB)
      have HT5 := Lib.hid ((HT4.out.alloc (.cells #[.int .i64 (-1), .int .i64 256] 3)).by hg5 hbg)
      have HL5 := Lib.hid ((Box.new w4 3 [.int .i64 (-1), .int .i64 256]).by hg5 (by omega))
      clear hg5 hr5 y2 HB4 HT4 HG4 HR4
      have l0 := HL5.out.cell 0
      have l1 := HL5.out.cell 1
      simp only [List.getElem?_cons_zero, List.getElem?_cons_succ] at l0 l1
      have hb5 := HT5.out.lt
      have hw5 := HB5.out.lt
      have hnl : ¬ w4.heap.size = b := by omega
      have hx : t = 0 ∨ t = 1 := by omega
      clear y1 y3
      rcases hx with rfl | rfl
      · skip
        obtain ⟨t0, t1, t2, t3, t4, tf⟩ := HT5.out.five
        go_upto_region 11 with fail
        obtain ⟨W8, hW8⟩ : ∃ W8, W8 = w5.setCell ⟨b, 0, none⟩ (.int .i64 (-1)) := ⟨_, rfl⟩
        rw [← hW8]
        have HT8 := Lib.hid (HT5.out.set 0 (.int .i64 (-1)))
        have HB8 := Lib.hid (HB5.out.other (p := ⟨b, 0, none⟩) hne0 (.int .i64 (-1)))
        have HG8 := Lib.hid (gb_set HG5.out (b := b) (by omega) 0 (.int .i64 (-1)))
        have HR8 := Lib.hid (HR5.out.other hDb hbg 0 (.int .i64 (-1)))
        simp only [List.set_cons_zero] at HT8
        rw [← hW8] at HT8 HB8 HG8 HR8
        clear hW8 t0 t1 t2 t3 t4 tf
        obtain ⟨t0, t1, t2, t3, t4, tf⟩ := HT8.out.five
        obtain ⟨r0, r1, r2, r3, r4, rf⟩ := HB8.out.five
        go_wp2
        refine bodyPost_ret (v := .agg #[.int .i64 (-1), .int .i64 x1, .int .i64 x2, .int .i64 x3, .int .i64 x4]) (by simp [results, Try.results49, go_sem, r0, r1, r2, r3, r4]) rfl ?_
        exact ⟨_, _, _, _, _, rfl, ⟨p3 + 2, by omega, ((((HR8.out.other hD0 hgB _ _).other hD0 hgB _ _).other hD0 hgB _ _).other hD0 hgB _ _).other hD0 hgB _ _⟩, gb_set (gb_set (gb_set (gb_set (gb_set HG8.out (Nat.le_refl _) _ _) (Nat.le_refl _) _ _) (Nat.le_refl _) _ _) (Nat.le_refl _) _ _) (Nat.le_refl _) _ _⟩
      · skip
        obtain ⟨t0, t1, t2, t3, t4, tf⟩ := HT5.out.five
        go_upto_region 11 with fail
        obtain ⟨W8, hW8⟩ : ∃ W8, W8 = w5.setCell ⟨b, 0, none⟩ (.int .i64 256) := ⟨_, rfl⟩
        rw [← hW8]
        have HT8 := Lib.hid (HT5.out.set 0 (.int .i64 256))
        have HB8 := Lib.hid (HB5.out.other (p := ⟨b, 0, none⟩) hne0 (.int .i64 256))
        have HG8 := Lib.hid (gb_set HG5.out (b := b) (by omega) 0 (.int .i64 256))
        have HR8 := Lib.hid (HR5.out.other hDb hbg 0 (.int .i64 256))
        simp only [List.set_cons_zero] at HT8
        rw [← hW8] at HT8 HB8 HG8 HR8
        clear hW8 t0 t1 t2 t3 t4 tf
        obtain ⟨t0, t1, t2, t3, t4, tf⟩ := HT8.out.five
        obtain ⟨r0, r1, r2, r3, r4, rf⟩ := HB8.out.five
        go_wp2
        refine bodyPost_ret (v := .agg #[.int .i64 256, .int .i64 x1, .int .i64 x2, .int .i64 x3, .int .i64 x4]) (by simp [results, Try.results49, go_sem, r0, r1, r2, r3, r4]) rfl ?_
        exact ⟨_, _, _, _, _, rfl, ⟨p3 + 2, by omega, ((((HR8.out.other hD0 hgB _ _).other hD0 hgB _ _).other hD0 hgB _ _).other hD0 hgB _ _).other hD0 hgB _ _⟩, gb_set (gb_set (gb_set (gb_set (gb_set HG8.out (Nat.le_refl _) _ _) (Nat.le_refl _) _ _) (Nat.le_refl _) _ _) (Nat.le_refl _) _ _) (Nat.le_refl _) _ _⟩
    · skip
      obtain ⟨t0, t1, t2, t3, t4, tf⟩ := HT4.out.five
      go_upto_region 11 with fail
      obtain ⟨W8, hW8⟩ : ∃ W8, W8 = w4.setCell ⟨b, 3, none⟩ (.int .i64 1000) := ⟨_, rfl⟩
      rw [← hW8]
      have HT8 := Lib.hid (HT4.out.set 3 (.int .i64 1000))
      have HB8 := Lib.hid (HB4.out.other (p := ⟨b, 3, none⟩) hne0 (.int .i64 1000))
      have HG8 := Lib.hid (gb_set HG4.out (b := b) (by omega) 3 (.int .i64 1000))
      have HR8 := Lib.hid (HR4.out.other hDb hbg 3 (.int .i64 1000))
      simp only [List.set_cons_zero, List.set_cons_succ] at HT8
      rw [← hW8] at HT8 HB8 HG8 HR8
      clear hW8 t0 t1 t2 t3 t4 tf
      obtain ⟨t0, t1, t2, t3, t4, tf⟩ := HT8.out.five
      obtain ⟨r0, r1, r2, r3, r4, rf⟩ := HB8.out.five
      go_wp2
      refine bodyPost_ret (v := .agg #[.int .i64 x0, .int .i64 x1, .int .i64 x2, .int .i64 1000, .int .i64 x4]) (by simp [results, Try.results49, go_sem, r0, r1, r2, r3, r4]) rfl ?_
      exact ⟨_, _, _, _, _, rfl, ⟨p3 + 1, by omega, ((((HR8.out.other hD0 hgB _ _).other hD0 hgB _ _).other hD0 hgB _ _).other hD0 hgB _ _).other hD0 hgB _ _⟩, gb_set (gb_set (gb_set (gb_set (gb_set HG8.out (Nat.le_refl _) _ _) (Nat.le_refl _) _ _) (Nat.le_refl _) _ _) (Nat.le_refl _) _ _) (Nat.le_refl _) _ _⟩
    · go_wp2_with fail
      refine (c_pick g (p3 + 1) 2 _ (HR4.out.keep (grownBy_alloc _ _ _)) (by omega) (by omega) (by omega)).mono ?_
      rintro e w5 ⟨t, rfl, y1, y2, _, hr5, hg5⟩
      have y3 := y2 (by omega)
      have HR5 := Lib.hid hr5
      have HG5 := Lib.hid (grownBy_tr (gb_alloc HG4.out _) hg5)
      have HB5 := Lib.hid ((HB4.out.alloc (.cells #[.int .i64 0, .int .i64 3] 3)).by hg5 hgB)
      have HT5 := Lib.hid ((HT4.out.alloc (.cells #[.int .i64 0, .int .i64 3] 3)).by hg5 hbg)
      have HL5 := Lib.hid ((Box.new w4 3 [.int .i64 0, .int .i64 3]).by hg5 (by omega))
      clear hg5 hr5 y2 HB4 HT4 HG4 HR4
      have l0 := HL5.out.cell 0
      have l1 := HL5.out.cell 1
      simp only [List.getElem?_cons_zero, List.getElem?_cons_succ] at l0 l1
      have hb5 := HT5.out.lt
      have hw5 := HB5.out.lt
      have hnl : ¬ w4.heap.size = b := by omega
      have hx : t = 0 ∨ t = 1 := by omega
      clear y1 y3
      rcases hx with rfl | rfl
      · skip
        obtain ⟨t0, t1, t2, t3, t4, tf⟩ := HT5.out.five
        go_upto_region 11 with fail
        obtain ⟨W8, hW8⟩ : ∃ W8, W8 = w5.setCell ⟨b, 4, none⟩ (.int .i64 0) := ⟨_, rfl⟩
        rw [← hW8]
        have HT8 := Lib.hid (HT5.out.set 4 (.int .i64 0))
        have HB8 := Lib.hid (HB5.out.other (p := ⟨b, 4, none⟩) hne0 (.int .i64 0))
        have HG8 := Lib.hid (gb_set HG5.out (b := b) (by omega) 4 (.int .i64 0))
        have HR8 := Lib.hid (HR5.out.other hDb hbg 4 (.int .i64 0))
        simp only [List.set_cons_zero, List.set_cons_succ] at HT8
        rw [← hW8] at HT8 HB8 HG8 HR8
        clear hW8 t0 t1 t2 t3 t4 tf
        obtain ⟨t0, t1, t2, t3, t4, tf⟩ := HT8.out.five
        obtain ⟨r0, r1, r2, r3, r4, rf⟩ := HB8.out.five
        go_wp2
        refine bodyPost_ret (v := .agg #[.int .i64 x0, .int .i64 x1, .int .i64 x2, .int .i64 x3, .int .i64 0]) (by simp [results, Try.results49, go_sem, r0, r1, r2, r3, r4]) rfl ?_
        exact ⟨_, _, _, _, _, rfl, ⟨p3 + 2, by omega, ((((HR8.out.other hD0 hgB _ _).other hD0 hgB _ _).other hD0 hgB _ _).other hD0 hgB _ _).other hD0 hgB _ _⟩, gb_set (gb_set (gb_set (gb_set (gb_set HG8.out (Nat.le_refl _) _ _) (Nat.le_refl _) _ _) (Nat.le_refl _) _ _) (Nat.le_refl _) _ _) (Nat.le_refl _) _ _⟩
      · skip
        obtain ⟨t0, t1, t2, t3, t4, tf⟩ := HT5.out.five
        go_upto_region 11 with fail
        obtain ⟨W8, hW8⟩ : ∃ W8, W8 = w5.setCell ⟨b, 4, none⟩ (.int .i64 3) := ⟨_, rfl⟩
        rw [← hW8]
        have HT8 := Lib.hid (HT5.out.set 4 (.int .i64 3))
        have HB8 := Lib.hid (HB5.out.other (p := ⟨b, 4, none⟩) hne0 (.int .i64 3))
        have HG8 := Lib.hid (gb_set HG5.out (b := b) (by omega) 4 (.int .i64 3))
        have HR8 := Lib.hid (HR5.out.other hDb hbg 4 (.int .i64 3))
        simp only [List.set_cons_zero, List.set_cons_succ] at HT8
        rw [← hW8] at HT8 HB8 HG8 HR8
        clear hW8 t0 t1 t2 t3 t4 tf
        obtain ⟨t0, t1, t2, t3, t4, tf⟩ := HT8.out.five
        obtain ⟨r0, r1, r2, r3, r4, rf⟩ := HB8.out.five
        go_wp2
        refine bodyPost_ret (v := .agg #[.int .i64 x0, .int .i64 x1, .int .i64 x2, .int .i64 x3, .int .i64 3]) (by simp [results, Try.results49, go_sem, r0, r1, r2, r3, r4]) rfl ?_
        exact ⟨_, _, _, _, _, rfl, ⟨p3 + 2, by omega, ((((HR8.out.other hD0 hgB _ _).other hD0 hgB _ _).other hD0 hgB _ _).other hD0 hgB _ _).other hD0 hgB _ _⟩, gb_set (gb_set (gb_set (gb_set (gb_set HG8.out (Nat.le_refl _) _ _) (Nat.le_refl _) _ _) (Nat.le_refl _) _ _) (Nat.le_refl _) _ _) (Nat.le_refl _) _ _⟩
    · skip
      obtain ⟨t0, t1, t2, t3, t4, tf⟩ := HT4.out.five
      go_upto_region 11 with fail
      obtain ⟨W8, hW8⟩ : ∃ W8, W8 = w4.setCell ⟨b, 2, none⟩ (.int .i64 (-1)) := ⟨_, rfl⟩
      rw [← hW8]
      have HT8 := Lib.hid (HT4.out.set 2 (.int .i64 (-1)))
      have HB8 := Lib.hid (HB4.out.other (p := ⟨b, 2, none⟩) hne0 (.int .i64 (-1)))
      have HG8 := Lib.hid (gb_set HG4.out (b := b) (by omega) 2 (.int .i64 (-1)))
      have HR8 := Lib.hid (HR4.out.other hDb hbg 2 (.int .i64 (-1)))
      simp only [List.set_cons_zero, List.set_cons_succ] at HT8
      rw [← hW8] at HT8 HB8 HG8 HR8
      clear hW8 t0 t1 t2 t3 t4 tf
      obtain ⟨t0, t1, t2, t3, t4, tf⟩ := HT8.out.five
      obtain ⟨r0, r1, r2, r3, r4, rf⟩ := HB8.out.five
      go_wp2
      refine bodyPost_ret (v := .agg #[.int .i64 x0, .int .i64 x1, .int .i64 (-1), .int .i64 x3, .int .i64 x4]) (by simp [results, Try.results49, go_sem, r0, r1, r2, r3, r4]) rfl ?_
      exact ⟨_, _, _, _, _, rfl, ⟨p3 + 1, by omega, ((((HR8.out.other hD0 hgB _ _).other hD0 hgB _ _).other hD0 hgB _ _).other hD0 hgB _ _).other hD0 hgB _ _⟩, gb_set (gb_set (gb_set (gb_set (gb_set HG8.out (Nat.le_refl _) _ _) (Nat.le_refl _) _ _) (Nat.le_refl _) _ _) (Nat.le_refl _) _ _) (Nat.le_refl _) _ _⟩
end Go.Proofs.Ytalalapjanckdaa
/- The verifier's toFlow, eqFlow. No condition. -/
namespace Go.Proofs.Ytalalapjanckdaa
open Go.RowKit
theorem c_toFlow (a b c d k : Int) (w : World) : Calls Try.prog 19 #[.agg #[.int .i64 a, .int .i64 b, .int .i64 c, .int .i64 d, .int .i64 k]] w fun e w' => e = .returned (.agg #[.int .i64 a, .int .i64 b, .int .i64 c, .int .i64 d, .int .i64 k]) ∧ Below w.heap.size w w' := by
  go_enter Try.func19, Try.ntmps19
  go_wp2
  go_returns
  exact ⟨rfl, by go_grown⟩
theorem c_eqFlow (a b c d k : Int) (w : World) : Calls Try.prog 27 #[.agg #[.int .i64 a, .int .i64 b, .int .i64 c, .int .i64 d, .int .i64 k], .agg #[.int .i64 a, .int .i64 b, .int .i64 c, .int .i64 d, .int .i64 k]] w fun e w' => e = .returned (.bool true) ∧ Below w.heap.size w w' := by
  go_enter Try.func27, Try.ntmps27
  go_wp2
  go_ret
  exact ⟨rfl, by go_grown⟩
end Go.Proofs.Ytalalapjanckdaa
/- Contracts of the verifier's small functions over lists of Flow, read as flat lists of ints: to, eq. No condition but the bounds that each states. (Printed by wip/mkz.py.) -/
namespace Go.Proofs.Ytalalapjanckdaa
open Go.RowKit
theorem zeroFlow : (Try.prog.info? 27).map (fun i => (i.zero, i.size, i.bytes)) = some (some (.agg #[.int .i64 0, .int .i64 0, .int .i64 0, .int .i64 0, .int .i64 0]), 5, 40) := by kernel_rfl
theorem elemFlow : Elem 23 27 5 40 := elem_mk (.agg #[.int .i64 0, .int .i64 0, .int .i64 0, .int .i64 0, .int .i64 0]) Try.underlying23 zeroFlow rfl (by decide) (by decide)
theorem zFlow {xs : List Int} {n k : Nat} (hl : xs.length = n * 5) (hk : k < n) {w : World} {a : Option Addr} (h : Ints w a xs) :
    ∃ b off, a = some ⟨b, off, none⟩ ∧ b < w.heap.size ∧ (w.cell? ⟨b, off + k * 5, none⟩ = some (.int .i64 (xs.getD (k * 5) 0)) ∧ w.cell? ⟨b, off + k * 5 + 1, none⟩ = some (.int .i64 (xs.getD (k * 5 + 1) 0)) ∧ w.cell? ⟨b, off + k * 5 + 2, none⟩ = some (.int .i64 (xs.getD (k * 5 + 2) 0)) ∧ w.cell? ⟨b, off + k * 5 + 3, none⟩ = some (.int .i64 (xs.getD (k * 5 + 3) 0)) ∧ w.cell? ⟨b, off + k * 5 + 4, none⟩ = some (.int .i64 (xs.getD (k * 5 + 4) 0))) := by
  rcases h with h | ⟨b, off, ha, hb, hc⟩
  · rw [h] at hl; simp at hl; omega
  · refine ⟨b, off, ha, hb, ?_, ?_, ?_, ?_, ?_⟩
    · have := hc (k * 5) (by omega); exact this
    · have := hc (k * 5 + 1) (by omega); rw [← Nat.add_assoc] at this; exact this
    · have := hc (k * 5 + 2) (by omega); rw [← Nat.add_assoc] at this; exact this
    · have := hc (k * 5 + 3) (by omega); rw [← Nat.add_assoc] at this; exact this
    · have := hc (k * 5 + 4) (by omega); rw [← Nat.add_assoc] at this; exact this
set_option maxHeartbeats 1000000 in
theorem c_eqFlowS (a b : Option Addr) (n ca cb : Nat) (xs : List Int) (w : World) (hxs : xs.length = n * 5) (hn : n ≤ 1048576) (ha : Ints w a xs) (hb : Ints w b xs) :
    Calls Try.prog 59 #[.slice a n ca, .slice b n cb] w fun e w' => e = .returned (.bool true) ∧ Below w.heap.size w w' := by
  have HX := Lib.hid hxs
  have HA := Lib.hid ha
  have HB := Lib.hid hb
  clear hxs ha hb
  go_enter Try.func59, Try.ntmps59
  go_wp2
  go_loopw [5] (fun i wr => ∃ (k : Nat), k ≤ n ∧ i = .int .i64 k ∧ Below w.heap.size w wr) (fun i _ => n - (intOf i).toNat)
  case atStart => exact ⟨0, Nat.zero_le _, rfl, Below.refl _ _⟩
  case round =>
    obtain ⟨k, hk, rfl, hG⟩ := hrel
    have HG := Lib.hid hG
    have hz := hG.size
    clear hG
    by_cases hlt : k < n
    · obtain ⟨b1, off1, rfl, _, c0, c1, c2, c3, c4⟩ := zFlow HX.out hlt (HA.out.below HG.out)
      obtain ⟨b2, off2, rfl, _, d0, d1, d2, d3, d4⟩ := zFlow HX.out hlt (HB.out.below HG.out)
      generalize xs.getD (k * 5) 0 = x0 at *
      generalize xs.getD (k * 5 + 1) 0 = x1 at *
      generalize xs.getD (k * 5 + 2) 0 = x2 at *
      generalize xs.getD (k * 5 + 3) 0 = x3 at *
      generalize xs.getD (k * 5 + 4) 0 = x4 at *
      have e0 := aft_cell c0
      have e1 := aft_cell c1
      have e2 := aft_cell c2
      have e3 := aft_cell c3
      have e4 := aft_cell c4
      have f0 := aft_cell d0
      have f1 := aft_cell d1
      have f2 := aft_cell d2
      have f3 := aft_cell d3
      have f4 := aft_cell d4
      clear c0 c1 c2 c3 c4 d0 d1 d2 d3 d4
      go_wp2
      refine wp_region_quietC (by kernel_rfl) (by kernel_rfl) ?_
      repeat (go_big_quiet_step ((go_at_call 27; exact aft_call (c_eqFlow _ _ _ _ _ _))))
      refine wpQuiet_nil ?_
      rintro _ ⟨⟨w6, hb6⟩, rfl⟩
      have HG6 := Lib.hid (Below.step HG.out hb6 hz)
      clear hb6 e0 f0 e1 f1 e2 f2 e3 f3 e4 f4
      go_wp2
      go_roundw
      case rel => exact ⟨k + 1, by omega, by go_num, HG6.out⟩
      case measure => simp [intOf]; omega
    · go_wp2
      go_ret
      exact ⟨rfl, HG.out⟩
set_option maxHeartbeats 2000000 in
theorem c_toFlowS (a : Option Addr) (n cap : Nat) (xs : List Int) (w : World) (hxs : xs.length = n * 5) (hn : n ≤ 1048576) (h : Ints w a xs) :
    Calls Try.prog 58 #[.slice a n cap] w (RetRow w 27 5 n (xs.map (Value.int .i64))) := by
  obtain ⟨i0, hi, hz0, hz1, hz2⟩ := info_parts zeroFlow
  have HX := Lib.hid hxs
  have HI := Lib.hid h
  clear h hxs
  go_enter Try.func58, Try.ntmps58
  go_wp2_with (at_make; refine wpList_make_full _ rfl _ _ 23 rfl w.heap.size 27 i0 (.agg #[.int .i64 0, .int .i64 0, .int .i64 0, .int .i64 0, .int .i64 0]) 5 Try.underlying23 hi hz0 hz1 .i64 .i64 _ _ n rfl rfl rfl rfl ?c1 ?c2 ?c3 ?c4)
  case c1 => rw [hz2]; omega
  case c2 => unfold maxLen; omega
  case c3 => exact Nat.le_refl _
  case c4 =>
    intro w1 hown hgr
    have HO := Lib.hid hown
    have HG := Lib.hid hgr
    clear hown hgr
    go_wp2
    go_loopw [4] (fun i wr => ∃ (k : Nat) (C : List Value), k ≤ n ∧ i = .int .i64 k ∧ C.length = n * 5 ∧ (∀ t, t < k * 5 → C[t]? = some (.int .i64 (xs.getD t 0))) ∧ wr.ownsRow w.heap.size 27 5 (.slice (some ⟨w.heap.size, 0, none⟩) n n) n C ∧ Below w.heap.size w wr) (fun i _ => n - (intOf i).toNat)
    case atStart => exact ⟨0, _, Nat.zero_le _, rfl, row_len HO.out, fun j hj => by omega, HO.out, grown_below HG.out⟩
    case round =>
      obtain ⟨k, C, hk, rfl, hC, hCk, hown, hgr⟩ := hrel
      have HO := Lib.hid hown
      have HG := Lib.hid hgr
      have HK := Lib.hid hCk
      have HC := Lib.hid hC
      have hzz := hgr.size
      clear hown hgr hCk hC
      by_cases hlt : k < n
      · obtain ⟨b, off, rfl, hb, c0, c1, c2, c3, c4⟩ := zFlow HX.out hlt (HI.out.below HG.out)
        generalize g0 : xs.getD (k * 5) 0 = x0 at *
        generalize g1 : xs.getD (k * 5 + 1) 0 = x1 at *
        generalize g2 : xs.getD (k * 5 + 2) 0 = x2 at *
        generalize g3 : xs.getD (k * 5 + 3) 0 = x3 at *
        generalize g4 : xs.getD (k * 5 + 4) 0 = x4 at *
        have HE := Lib.hid ((And.intro g0 (And.intro g1 (And.intro g2 (And.intro g3 g4)))))
        clear g0 g1 g2 g3 g4
        go_wp2_with fail
        refine (c_toFlow x0 x1 x2 x3 x4 _).mono ?_; rintro e w2 ⟨rfl, b2⟩
        have HO2 := Lib.hid (row_below HO.out b2)
        have HG2 := Lib.hid (Below.step HG.out b2 hzz)
        clear b2 c0 c1 c2 c3 c4
        have hl3 : C.length = n * 5 := HC.out
        have e0 := HO2.out.cellAt (k * 5) (by omega)
        have e1 := HO2.out.cellAt (k * 5 + 1) (by omega)
        have e2 := HO2.out.cellAt (k * 5 + 2) (by omega)
        have e3 := HO2.out.cellAt (k * 5 + 3) (by omega)
        have e4 := HO2.out.cellAt (k * 5 + 4) (by omega)
        rw [List.getElem?_eq_getElem (by omega)] at e0 e1 e2 e3 e4
        have f0 := HO2.out.frozenAt (k * 5)
        have f1 := HO2.out.frozenAt (k * 5 + 1)
        have f2 := HO2.out.frozenAt (k * 5 + 2)
        have f3 := HO2.out.frozenAt (k * 5 + 3)
        have f4 := HO2.out.frozenAt (k * 5 + 4)
        have HS3 := Lib.hid ((((((HO2.out.stored (k * 5) (.int .i64 x0)).1.stored (k * 5 + 1) (.int .i64 x1)).1.stored (k * 5 + 2) (.int .i64 x2)).1.stored (k * 5 + 3) (.int .i64 x3)).1.stored (k * 5 + 4) (.int .i64 x4)).1)
        generalize C[k * 5]'(by omega) = v0 at e0
        generalize C[k * 5 + 1]'(by omega) = v1 at e1
        generalize C[k * 5 + 2]'(by omega) = v2 at e2
        generalize C[k * 5 + 3]'(by omega) = v3 at e3
        generalize C[k * 5 + 4]'(by omega) = v4 at e4
        clear hl3
        go_wp2
        go_roundw
        case rel =>
          refine ⟨k + 1, (((((C.set (k * 5) (.int .i64 x0)).set (k * 5 + 1) (.int .i64 x1)).set (k * 5 + 2) (.int .i64 x2)).set (k * 5 + 3) (.int .i64 x3)).set (k * 5 + 4) (.int .i64 x4)), by omega, by go_num, by simp [HC.out], fun t ht => ?_, HS3.out, (((((HG2.out.setCell (by simp) _).setCell (by simp) _).setCell (by simp) _).setCell (by simp) _).setCell (by simp) _)⟩
          have hl3 := HC.out
          obtain ⟨q0, q1, q2, q3, q4⟩ := HE.out
          by_cases t4 : t = k * 5 + 4
          · subst t4; rw [List.getElem?_set_self (by first | omega | (simp; omega)), q4]
          by_cases t3 : t = k * 5 + 3
          · subst t3; rw [List.getElem?_set_ne (by omega)]; rw [List.getElem?_set_self (by first | omega | (simp; omega)), q3]
          by_cases t2 : t = k * 5 + 2
          · subst t2; rw [List.getElem?_set_ne (by omega)]; rw [List.getElem?_set_ne (by omega)]; rw [List.getElem?_set_self (by first | omega | (simp; omega)), q2]
          by_cases t1 : t = k * 5 + 1
          · subst t1; rw [List.getElem?_set_ne (by omega)]; rw [List.getElem?_set_ne (by omega)]; rw [List.getElem?_set_ne (by omega)]; rw [List.getElem?_set_self (by first | omega | (simp; omega)), q1]
          by_cases t0 : t = k * 5
          · subst t0; rw [List.getElem?_set_ne (by omega)]; rw [List.getElem?_set_ne (by omega)]; rw [List.getElem?_set_ne (by omega)]; rw [List.getElem?_set_ne (by omega)]; rw [List.getElem?_set_self (by first | omega | (simp; omega)), q0]
          · rw [List.getElem?_set_ne (by omega)]; rw [List.getElem?_set_ne (by omega)]; rw [List.getElem?_set_ne (by omega)]; rw [List.getElem?_set_ne (by omega)]; rw [List.getElem?_set_ne (by omega)]; exact HK.out t (by omega)
        case measure => simp [intOf]; omega
      · obtain rfl : k = n := by omega
        go_wp2
        go_ret
        have := HO.out
        rw [cells_eq (by rw [HC.out, HX.out]) (fun j hj => HK.out j (by rw [← HX.out]; exact hj))] at this
        exact ⟨_, _, rfl, this, below_grown HG.out⟩
end Go.Proofs.Ytalalapjanckdaa
/- The map of flows that were seen: read and written. No condition. -/
namespace Go.Proofs.Ytalalapjanckdaa
open Go.RowKit
theorem keyLits_int (d : Nat) (n : Int) (h : (Lit.int .i64 n).wf = true) : Try.prog.keyLits (d + 1) 3 [.int .i64 n] = some [.int .i64 n] := by
  unfold Program.keyLits
  rw [Try.underlying3]
  simp [h]
theorem wf_small {n lo hi : Int} (h : inB n lo hi = true) (hl : 0 ≤ lo) (hh : hi ≤ 100000) : (Lit.int .i64 n).wf = true := by
  have := inB_true.1 h
  simp only [Lit.wf, Bool.and_eq_true, decide_eq_true_eq]
  exact ⟨by show -9223372036854775808 ≤ n; omega, by show n ≤ 9223372036854775807; omega⟩
theorem fv_parts {f : F5} (h : fv f = true) : inB f.1 0 255 = true ∧ inB f.2.1 0 999 = true ∧ inB f.2.2.1 0 255 = true ∧ inB f.2.2.2.1 0 999 = true ∧ inB f.2.2.2.2 1 2 = true := by
  simp only [fv, Bool.and_eq_true] at h
  exact ⟨h.1.1.1.1, h.1.1.2, h.1.1.1.2, h.1.2, h.2⟩
theorem flowCells : Try.prog.cellsOf 27 = 5 := by kernel_rfl
theorem intCells : Try.prog.cellsOf 3 = 1 := by kernel_rfl
theorem flowType : Try.prog.keyType 27 = true := by kernel_rfl
theorem typesMany : ∃ d, Try.prog.types.size + 1 = d + 1 + 1 := ⟨Try.prog.types.size - 1, by kernel_rfl⟩
/-- A valid flow is a key. -/
theorem key_of {f : F5} (h : fv f = true) : ∃ l, keyOf Try.prog 27 (fvv f) = some l := by
  obtain ⟨h1, h2, h3, h4, h5⟩ := fv_parts h
  have w1 := wf_small h1 (by omega) (by omega)
  have w2 := wf_small h2 (by omega) (by omega)
  have w3 := wf_small h3 (by omega) (by omega)
  have w4 := wf_small h4 (by omega) (by omega)
  have w5 := wf_small h5 (by omega) (by omega)
  have hf : (fvv f).formed Try.prog 27 = true := by simp [fvv, Value.formed, Try.underlying27, flowCells]
  obtain ⟨d, hd⟩ := typesMany
  have hk : Try.prog.keyLits (d + 1 + 1) 27 (fvv f).cells.toList = some [.int .i64 f.1, .int .i64 f.2.1, .int .i64 f.2.2.1, .int .i64 f.2.2.2.1, .int .i64 f.2.2.2.2] := by
    unfold Program.keyLits
    rw [Try.underlying27]
    simp [fvv, Value.cells, flowCells, intCells, keyLits_int, w1, w2, w3, w4, w5]
  unfold keyOf
  rw [Try.underlying27]
  simp only [flowType, hf, hd, hk]
  exact ⟨_, rfl⟩
theorem fvv_inj {f g : F5} (h : fvv f = fvv g) : f = g := by
  obtain ⟨a, b, c, d, k⟩ := f
  obtain ⟨a', b', c', d', k'⟩ := g
  simp [fvv] at h
  obtain ⟨rfl, rfl, rfl, rfl, rfl⟩ := h
  rfl
/-- Block b is the map of the flows fs that were seen. -/
def Seen (w : World) (b n : Nat) (fs : List F5) : Prop :=
  ∃ D : DataW Unit, w.ownsMap Try.prog 27 (plainElem Try.prog 4) b n D ∧ Go.Maps.IsMap D ∧
    ∀ f l, fv f = true → keyOf Try.prog 27 (fvv f) = some l → D.atKey l (.lit (.bool false)) = .lit (.bool (decide (f ∈ fs)))
theorem Seen.made (w : World) : Seen (w.alloc (.map #[] 0)) w.heap.size 0 [] :=
  ⟨_, World.ownsMap_made w _ _ _, Go.Maps.isMap_empty, fun f l _ _ => by simp [DataW.atKey]⟩
theorem Seen.kept {w w' : World} {row : Option Nat} {b n : Nat} {fs : List F5} (h : Seen w b n fs) (hg : w.grownBy w' row) (hne : some b ≠ row) : Seen w' b n fs := by
  obtain ⟨D, h1, h2, h3⟩ := h
  exact ⟨D, h1.kept hg hne, h2, h3⟩
theorem Seen.lt {w : World} {b n : Nat} {fs : List F5} (h : Seen w b n fs) : b < w.heap.size := by
  obtain ⟨D, h1, _⟩ := h
  exact h1.lt
theorem Seen.below {w w' : World} {b n : Nat} {fs : List F5} (h : Seen w b n fs) (hb : Below w.heap.size w w') : Seen w' b n fs := h.kept (below_grown hb) (by simp)
theorem Seen.look {w : World} {b n : Nat} {fs : List F5} (h : Seen w b n fs) {f : F5} (hf : fv f = true) :
    (Instr.lookup 87 (.map (some b)) (fvv f) false).run Try.prog w = .ok (.bool (decide (f ∈ fs))) w := by
  obtain ⟨D, h1, _, h3⟩ := h
  obtain ⟨l, hl⟩ := key_of hf
  have hz : (zeroValue 4).run Try.prog w = .ok (.bool false) w := by kernel_rfl
  obtain ⟨v, ps, hrun, hv⟩ := h1.lookup flowKeyed Try.underlying87 hz (plainElem_bool Try.underlying4 false) hl
  rw [h3 f l hf hl] at hv
  have : v = .bool (decide (f ∈ fs)) := by
    cases v <;> simp [plainElem, Try.underlying4] at hv
    rw [hv.1]
  rw [this] at hrun
  exact hrun
theorem wpl_seen (w : World) {ops : Array Oper} {rest : List Oper} {o : Oper} {a : Act} {Q : Exit → Act → World → Prop}
    (hg : o.guard = none) (m x v : Operand) (hop : o.op = Op.mapUpdate 87 m x v) (b n : Nat) (fs : List F5) (hm : a.eval m = .map (some b)) (hown : Seen w b n fs) (hn : n < maxLen)
    (f : F5) (hf : fv f = true) (hx : a.eval x = fvv f) (hv : a.eval v = .bool true)
    (hK : ∀ w', Seen w' b (n + 1) (fs ++ [f]) → w.grownBy w' (some b) → wpList Try.prog ops Q rest (a.put o.dst undef) w') :
    wpList Try.prog ops Q (o :: rest) a w := by
  obtain ⟨D, h1, h2, h3⟩ := hown
  obtain ⟨l, hl⟩ := key_of hf
  refine wpList_mapUpdate_own w hg m x v _ hop 27 4 flowKeyed Try.underlying87 (plainElem Try.prog 4) b n D hm h1 hn (fvv f) (.bool true) l hx hv hl (.lit (.bool true)) [] (plainElem_bool Try.underlying4 true) ?_
  intro w' r1 r2
  refine hK w' ⟨_, r1, h2.put _ _, fun g k hg' hk => ?_⟩ r2
  by_cases e : k = l
  · subst e
    have : g = f := fvv_inj (flowKeyed.inj hk hl)
    subst this
    rw [Go.Maps.atKey_put_same h2 (flowKeyed.key hl)]
    simp
  · rw [Go.Maps.atKey_put_other e, h3 g k hg' hk]
    have : g ≠ f := by
      rintro rfl
      rw [hl] at hk
      injection hk with hk
      exact e hk.symm
    simp [this]
end Go.Proofs.Ytalalapjanckdaa
/- Flows compared: what '==' and '!=' say of two flows. No condition. -/
namespace Go.Proofs.Ytalalapjanckdaa
open Go.RowKit
theorem flowFields : Try.prog.underlying 27 = some (.struct (Try.prog.fieldsOf 27)) := by kernel_rfl
theorem flowStood : Try.prog.stoodInHeld 27 = false := by kernel_rfl
theorem flowGuard : Try.prog.eqGuardType Try.prog.depth 27 = false := by kernel_rfl
theorem run_eqF (f g : F5) (w : World) : (Op.equalIn 10000 27 (fvv f) (fvv g)).run Try.prog w = .ok (decide (f = g)) w := by
  obtain ⟨x0, x1, x2, x3, x4⟩ := f
  obtain ⟨y0, y1, y2, y3, y4⟩ := g
  unfold fvv
  show (Op.equalIn (9999 + 1) _ _ _).run Try.prog w = _
  rw [run_equalIn_agg _ _ _ _ _ flowFields flowStood]
  by_cases h0 : x0 = y0
  · by_cases h1 : x1 = y1
    · by_cases h2 : x2 = y2
      · by_cases h3 : x3 = y3
        · by_cases h4 : x4 = y4
          · simp [go_sem, h0, h1, h2, h3, h4]
          · simp [go_sem, h0, h1, h2, h3, h4]
        · simp [go_sem, h0, h1, h2, h3]
      · simp [go_sem, h0, h1, h2]
    · simp [go_sem, h0, h1]
  · simp [go_sem, h0]
theorem run_eqlF (f g : F5) (w : World) : (binOp .eql 27 (fvv f) (fvv g)).run Try.prog w = .ok (.bool (decide (f = g))) w := by
  have := run_eqF f g w
  unfold fvv at *
  rw [run_eql_struct, this]; rfl
theorem run_neqF (f g : F5) (w : World) : (binOp .neq 27 (fvv f) (fvv g)).run Try.prog w = .ok (.bool (!decide (f = g))) w := by
  have := run_eqF f g w
  unfold fvv at *
  rw [run_neq_struct, this]; rfl
/-- .. as the walk meets it: alike. -/
theorem eqlF_yes {f g : F5} (h : f = g) (w : World) : (binOp .eql 27 (fvv f) (fvv g)).run Try.prog w = .ok (.bool true) w := by rw [run_eqlF, decide_eq_true h]
theorem eqlF_no {f g : F5} (h : f ≠ g) (w : World) : (binOp .eql 27 (fvv f) (fvv g)).run Try.prog w = .ok (.bool false) w := by rw [run_eqlF, decide_eq_false h]
theorem neqF_yes {f g : F5} (h : f ≠ g) (w : World) : (binOp .neq 27 (fvv f) (fvv g)).run Try.prog w = .ok (.bool true) w := by rw [run_neqF, decide_eq_false h]; rfl
theorem neqF_no {f g : F5} (h : f = g) (w : World) : (binOp .neq 27 (fvv f) (fvv g)).run Try.prog w = .ok (.bool false) w := by rw [run_neqF, decide_eq_true h]; rfl
theorem eqlF_yes' {x0 x1 x2 x3 x4 y0 y1 y2 y3 y4 : Int} (h : ((x0, x1, x2, x3, x4) : F5) = (y0, y1, y2, y3, y4)) : ∀ w, (binOp .eql 27 (.agg #[.int .i64 x0, .int .i64 x1, .int .i64 x2, .int .i64 x3, .int .i64 x4]) (.agg #[.int .i64 y0, .int .i64 y1, .int .i64 y2, .int .i64 y3, .int .i64 y4])).run Try.prog w = .ok (.bool true) w := fun w => by
  have := eqlF_yes h w
  unfold fvv at this
  exact this
theorem eqlF_no' {x0 x1 x2 x3 x4 y0 y1 y2 y3 y4 : Int} (h : ((x0, x1, x2, x3, x4) : F5) ≠ (y0, y1, y2, y3, y4)) : ∀ w, (binOp .eql 27 (.agg #[.int .i64 x0, .int .i64 x1, .int .i64 x2, .int .i64 x3, .int .i64 x4]) (.agg #[.int .i64 y0, .int .i64 y1, .int .i64 y2, .int .i64 y3, .int .i64 y4])).run Try.prog w = .ok (.bool false) w := fun w => by
  have := eqlF_no h w
  unfold fvv at this
  exact this
theorem neqF_yes' {x0 x1 x2 x3 x4 y0 y1 y2 y3 y4 : Int} (h : ((x0, x1, x2, x3, x4) : F5) ≠ (y0, y1, y2, y3, y4)) : ∀ w, (binOp .neq 27 (.agg #[.int .i64 x0, .int .i64 x1, .int .i64 x2, .int .i64 x3, .int .i64 x4]) (.agg #[.int .i64 y0, .int .i64 y1, .int .i64 y2, .int .i64 y3, .int .i64 y4])).run Try.prog w = .ok (.bool true) w := fun w => by
  have := neqF_yes h w
  unfold fvv at this
  exact this
theorem neqF_no' {x0 x1 x2 x3 x4 y0 y1 y2 y3 y4 : Int} (h : ((x0, x1, x2, x3, x4) : F5) = (y0, y1, y2, y3, y4)) : ∀ w, (binOp .neq 27 (.agg #[.int .i64 x0, .int .i64 x1, .int .i64 x2, .int .i64 x3, .int .i64 x4]) (.agg #[.int .i64 y0, .int .i64 y1, .int .i64 y2, .int .i64 y3, .int .i64 y4])).run Try.prog w = .ok (.bool false) w := fun w => by
  have := neqF_no h w
  unfold fvv at this
  exact this
end Go.Proofs.Ytalalapjanckdaa
/- Outlets: flows as flat cells; when an outlet is valid. No condition but lists of at most 2^20 flows. -/
namespace Go.Proofs.Ytalalapjanckdaa
open Go.RowKit
def z5 : F5 := (0, 0, 0, 0, 0)
def fInts (fs : List F5) : List Int := fs.flatMap fI
theorem fInts_len (fs : List F5) : (fInts fs).length = fs.length * 5 := by
  induction fs with
  | nil => rfl
  | cons e r ih => simp only [fInts, List.flatMap_cons, List.length_append, List.length_cons] at *; rw [ih]; simp [fI]; omega
theorem fInts_app (a b : List F5) : fInts (a ++ b) = fInts a ++ fInts b := by simp [fInts]
theorem fInts_one (e : F5) : fInts [e] = fI e := by simp [fInts]
theorem fInts_at : ∀ (fs : List F5) (k j : Nat), k < fs.length → j < 5 → (fInts fs)[k * 5 + j]? = (fI (fs.getD k z5))[j]?
  | [], k, j, h, _ => by simp at h
  | x :: r, 0, j, _, hj => by
    have e : fInts (x :: r) = fI x ++ fInts r := rfl
    rw [e, Nat.zero_mul, Nat.zero_add, List.getElem?_append_left (by simpa [fI] using hj)]; rfl
  | x :: r, k + 1, j, h, hj => by
    have e : fInts (x :: r) = fI x ++ fInts r := rfl
    rw [e, List.getElem?_append_right (by simp [fI]; omega)]
    have : (k + 1) * 5 + j - (fI x).length = k * 5 + j := by simp [fI]; omega
    rw [this, fInts_at r k j (by simpa using h) hj]
    simp [List.getD_eq_getElem?_getD]
theorem fInts_get {fs : List F5} {k : Nat} (h : k < fs.length) : (fInts fs).getD (k * 5) 0 = (fs.getD k z5).1 ∧ (fInts fs).getD (k * 5 + 1) 0 = (fs.getD k z5).2.1 ∧ (fInts fs).getD (k * 5 + 2) 0 = (fs.getD k z5).2.2.1 ∧
    (fInts fs).getD (k * 5 + 3) 0 = (fs.getD k z5).2.2.2.1 ∧ (fInts fs).getD (k * 5 + 4) 0 = (fs.getD k z5).2.2.2.2 := by
  have a := fun j hj => fInts_at fs k j h hj
  refine ⟨?_, ?_, ?_, ?_, ?_⟩
  · rw [List.getD_eq_getElem?_getD]; have := a 0 (by omega); rw [Nat.add_zero] at this; rw [this]; rfl
  all_goals rw [List.getD_eq_getElem?_getD, a _ (by omega)]; rfl
/-- What is read of a list of flows. -/
def Flws (w : World) (a : Option Addr) (fs : List F5) : Prop := Ints w a (fInts fs)
theorem Flws.below {w w' : World} {a : Option Addr} {fs : List F5} (h : Flws w a fs) (hb : Below w.heap.size w w') : Flws w' a fs := Ints.below h hb
/-- The cells of one flow. -/
def FlwAt (w : World) (b off : Nat) (e : F5) : Prop :=
  w.cell? ⟨b, off, none⟩ = some (.int .i64 e.1) ∧ w.cell? ⟨b, off + 1, none⟩ = some (.int .i64 e.2.1) ∧ w.cell? ⟨b, off + 2, none⟩ = some (.int .i64 e.2.2.1) ∧ w.cell? ⟨b, off + 3, none⟩ = some (.int .i64 e.2.2.2.1) ∧ w.cell? ⟨b, off + 4, none⟩ = some (.int .i64 e.2.2.2.2)
theorem Flws.at {w : World} {a : Option Addr} {fs : List F5} {n k : Nat} (h : Flws w a fs) (hl : fs.length = n) (hk : k < n) :
    ∃ b off, a = some ⟨b, off, none⟩ ∧ b < w.heap.size ∧ ∀ j, j < n → FlwAt w b (off + j * 5) (fs.getD j z5) := by
  have hl5 : (fInts fs).length = n * 5 := by rw [fInts_len, hl]
  rcases h with h | ⟨b, off, ha, hb, hc⟩
  · rw [h] at hl5; simp at hl5; omega
  · refine ⟨b, off, ha, hb, fun j hj => ?_⟩
    obtain ⟨g0, g1, g2, g3, g4⟩ := fInts_get (fs := fs) (k := j) (by omega)
    have c := fun t (ht : t < 5) => hc (j * 5 + t) (by rw [hl5]; omega)
    refine ⟨?_, ?_, ?_, ?_, ?_⟩
    · rw [← g0]; exact hc (j * 5) (by rw [hl5]; omega)
    · rw [← g1, Nat.add_assoc]; exact c 1 (by omega)
    · rw [← g2, Nat.add_assoc]; exact c 2 (by omega)
    · rw [← g3, Nat.add_assoc]; exact c 3 (by omega)
    · rw [← g4, Nat.add_assoc]; exact c 4 (by omega)
/-- A slot is free, or its flow is valid and stands in none ahead. -/
def oOk (fs : List F5) (k : Nat) : Bool := decide (fs.getD k z5 = z5) || (fv (fs.getD k z5) && !(decide (fs.getD k z5 ∈ fs.take k)))
/-- An outlet is valid. -/
def ov (o r : Int) (fs : List F5) : Bool := inB o 0 255 && inB (fs.length : Int) 1 8 && inB r 0 (999 - (fs.length : Int) + 1) && (List.range fs.length).all (oOk fs)
theorem ov_not {o r : Int} {fs : List F5} {k : Nat} (hk : k < fs.length) (h : oOk fs k = false) : ov o r fs = false := by
  rw [← Bool.not_eq_true]
  intro h'
  simp only [ov, Bool.and_eq_true, List.all_eq_true, List.mem_range] at h'
  rw [h'.2 k hk] at h; cases h
theorem ov_of {o r : Int} {fs : List F5} (h : ∀ j, j < fs.length → oOk fs j = true) : ov o r fs = (inB o 0 255 && inB (fs.length : Int) 1 8 && inB r 0 (999 - (fs.length : Int) + 1)) := by
  have : (List.range fs.length).all (oOk fs) = true := by
    simp only [List.all_eq_true, List.mem_range]; exact h
  rw [ov, this, Bool.and_true]
theorem ov_parts {o r : Int} {fs : List F5} (h : ov o r fs = true) : inB o 0 255 = true ∧ inB (fs.length : Int) 1 8 = true ∧ inB r 0 (999 - (fs.length : Int) + 1) = true ∧ ∀ k, k < fs.length → oOk fs k = true := by
  simp only [ov, Bool.and_eq_true, List.all_eq_true, List.mem_range] at h
  exact ⟨h.1.1.1, h.1.1.2, h.1.2, h.2⟩
theorem take_fl {fs : List F5} {k n : Nat} (hl : fs.length = n) (hk : k < n) : fs.take (k + 1) = fs.take k ++ [fs.getD k z5] := by
  have : fs[k]? = some (fs.getD k z5) := by rw [List.getD_eq_getElem?_getD, List.getElem?_eq_getElem (by omega)]; rfl
  rw [List.take_add_one, this]; rfl
theorem fv_zero : fv z5 = false := by decide
theorem fv_ne {f : F5} (h : fv f = true) : f ≠ z5 := by rintro rfl; rw [fv_zero] at h; cases h
/-- The flows that stand in slots. -/
def busy (fs : List F5) : List F5 := fs.filter fun f => !decide (f = z5)
theorem busy_mem {fs : List F5} {f : F5} (h : f ≠ z5) : f ∈ busy fs ↔ f ∈ fs := by
  unfold busy
  rw [List.mem_filter]
  simp [h]
theorem busy_skip {fs : List F5} {k n : Nat} (hl : fs.length = n) (hk : k < n) (h : fs.getD k z5 = z5) : busy (fs.take (k + 1)) = busy (fs.take k) := by
  rw [take_fl hl hk, busy, List.filter_append, h]
  simp [busy]
theorem busy_more {fs : List F5} {k n : Nat} (hl : fs.length = n) (hk : k < n) (h : fs.getD k z5 ≠ z5) : busy (fs.take (k + 1)) = busy (fs.take k) ++ [fs.getD k z5] := by
  rw [take_fl hl hk, busy, List.filter_append]
  simp [-List.getD_eq_getElem?_getD, busy, h]
/-- The cells of flows. -/
abbrev fCells (fs : List F5) : List Value := (fInts fs).map (Value.int .i64)
/-- A row of the call's own holds these flows. -/
abbrev FlwRow (w : World) (base : Nat) (a : Option Addr) (n cap : Nat) (fs : List F5) : Prop := w.ownsRow base 27 5 (.slice a n cap) n (fCells fs)
theorem FlwRow.flws {w : World} {base : Nat} {a : Option Addr} {n cap : Nat} {fs : List F5} (h : FlwRow w base a n cap fs) : Flws w a fs := Vals.ints (row_vals h)
theorem fCells_len (fs : List F5) : (fCells fs).length = fs.length * 5 := by rw [List.length_map, fInts_len]
theorem FlwRow.len {w : World} {base : Nat} {a : Option Addr} {n cap : Nat} {fs : List F5} (h : FlwRow w base a n cap fs) : fs.length = n := by
  have := row_len h
  rw [fCells_len] at this
  omega
theorem set_cons5 (e : F5) (L : List Int) (m j : Nat) (v : Int) : (fI e ++ L).set ((m + 1) * 5 + j) v = fI e ++ L.set (m * 5 + j) v := by
  rw [List.set_append_right _ _ (by show 5 ≤ _; omega)]
  congr 2
  show _ - 5 = _; omega
theorem fInts_set : ∀ (ds : List F5) (i : Nat) (e : F5), i < ds.length → fInts (ds.set i e) =
    (((((fInts ds).set (i * 5) e.1).set (i * 5 + 1) e.2.1).set (i * 5 + 2) e.2.2.1).set (i * 5 + 3) e.2.2.2.1).set (i * 5 + 4) e.2.2.2.2
  | [], i, e, h => by simp at h
  | x :: r, 0, e, _ => by
    have a : fInts (x :: r) = fI x ++ fInts r := rfl
    have b : fInts (e :: r) = fI e ++ fInts r := rfl
    rw [List.set_cons_zero, a, b]
    simp [fI]
  | x :: r, i + 1, e, h => by
    have a : fInts (x :: r) = fI x ++ fInts r := rfl
    have b : fInts (x :: r.set i e) = fI x ++ fInts (r.set i e) := rfl
    rw [List.set_cons_succ, b, fInts_set r i e (by simpa using h), a]
    have c := set_cons5 x
    have c0 := fun L m v => c L m 0 v
    simp only [Nat.add_zero] at c0
    rw [c0, c, c, c, c]
theorem FlwRow.put {w : World} {base g n cap i : Nat} {fs : List F5} (h : FlwRow w base (some ⟨g, 0, none⟩) n cap fs) (hi : i < n) (e : F5) :
    FlwRow (((((w.setCell ⟨g, i * 5, none⟩ (.int .i64 e.1)).setCell ⟨g, i * 5 + 1, none⟩ (.int .i64 e.2.1)).setCell ⟨g, i * 5 + 2, none⟩ (.int .i64 e.2.2.1)).setCell ⟨g, i * 5 + 3, none⟩ (.int .i64 e.2.2.2.1)).setCell ⟨g, i * 5 + 4, none⟩ (.int .i64 e.2.2.2.2)) base (some ⟨g, 0, none⟩) n cap (fs.set i e) ∧
    w.grownBy (((((w.setCell ⟨g, i * 5, none⟩ (.int .i64 e.1)).setCell ⟨g, i * 5 + 1, none⟩ (.int .i64 e.2.1)).setCell ⟨g, i * 5 + 2, none⟩ (.int .i64 e.2.2.1)).setCell ⟨g, i * 5 + 3, none⟩ (.int .i64 e.2.2.2.1)).setCell ⟨g, i * 5 + 4, none⟩ (.int .i64 e.2.2.2.2)) (some g) := by
  have hl := h.len
  have s0 := h.stored (i * 5) (.int .i64 e.1)
  have s1 := s0.1.stored (i * 5 + 1) (.int .i64 e.2.1)
  have s2 := s1.1.stored (i * 5 + 2) (.int .i64 e.2.2.1)
  have s3 := s2.1.stored (i * 5 + 3) (.int .i64 e.2.2.2.1)
  have s4 := s3.1.stored (i * 5 + 4) (.int .i64 e.2.2.2.2)
  refine ⟨?_, grownBy_tr s0.2 (grownBy_tr s1.2 (grownBy_tr s2.2 (grownBy_tr s3.2 s4.2)))⟩
  have e1 : fCells (fs.set i e) = (((((fCells fs).set (i * 5) (.int .i64 e.1)).set (i * 5 + 1) (.int .i64 e.2.1)).set (i * 5 + 2) (.int .i64 e.2.2.1)).set (i * 5 + 3) (.int .i64 e.2.2.2.1)).set (i * 5 + 4) (.int .i64 e.2.2.2.2) := by
    unfold fCells
    rw [fInts_set fs i e (by omega)]
    simp only [List.map_set]
  unfold FlwRow
  rw [e1]
  exact s4.1
theorem fCells_at {fs : List F5} {k j : Nat} (hk : k < fs.length) (hj : j < 5) : (fCells fs)[k * 5 + j]? = ((fI (fs.getD k z5))[j]?).map (Value.int .i64) := by
  rw [List.getElem?_map, fInts_at fs k j hk hj]
/-- The cells of a row's flow, and that none is frozen. -/
theorem FlwRow.cells {w : World} {base g n cap k : Nat} {fs : List F5} (h : FlwRow w base (some ⟨g, 0, none⟩) n cap fs) (hk : k < n) :
    (w.cell? ⟨g, k * 5, none⟩ = some (.int .i64 (fs.getD k z5).1) ∧ w.cell? ⟨g, k * 5 + 1, none⟩ = some (.int .i64 (fs.getD k z5).2.1) ∧ w.cell? ⟨g, k * 5 + 2, none⟩ = some (.int .i64 (fs.getD k z5).2.2.1) ∧ w.cell? ⟨g, k * 5 + 3, none⟩ = some (.int .i64 (fs.getD k z5).2.2.2.1) ∧
     w.cell? ⟨g, k * 5 + 4, none⟩ = some (.int .i64 (fs.getD k z5).2.2.2.2)) ∧ ∀ i, w.frozen? ⟨g, i, none⟩ = false := by
  have hl := h.len
  have hn := row_len h
  have c := fun j (hj : j < 5) => (h.cellAt (k * 5 + j) (by omega)).trans (fCells_at (fs := fs) (k := k) (by omega) hj)
  exact ⟨⟨c 0 (by omega), c 1 (by omega), c 2 (by omega), c 3 (by omega), c 4 (by omega)⟩, fun i => h.frozenAt i⟩
end Go.Proofs.Ytalalapjanckdaa
/- OutletValid of the program. No condition but lists of at most 2^20 flows. -/
namespace Go.Proofs.Ytalalapjanckdaa
open Go.RowKit
theorem below_rw {w0 w1 w2 : World} {b : Nat} (h : Below w0.heap.size w0 w1) (hg : w1.grownBy w2 (some b)) (hb : w0.heap.size ≤ b) : Below w0.heap.size w0 w2 :=
  h.grown hg h.size (fun g hg => by cases hg; exact hb)
set_option maxRecDepth 100000 in
set_option maxHeartbeats 8000000 in
theorem c_OutletValid (o r : Int) (a : Option Addr) (n cap : Nat) (fs : List F5) (w : World) (hxs : fs.length = n) (hn : n ≤ 1048576) (h : Flws w a fs) :
    Calls Try.prog 26 #[.agg #[.int .i64 o, .int .i64 r, .slice a n cap]] w fun e w' => e = .returned (.bool (ov o r fs)) ∧ Below w.heap.size w w' := by
  have HX := Lib.hid hxs
  have HI := Lib.hid h
  clear h hxs
  have g0 : Below w.heap.size w (w.alloc (.cells #[.int .i64 o, .int .i64 r, .slice a n cap] 25)) := (Below.refl _ _).alloc (Nat.le_refl _) _
  have HG0 := Lib.hid g0
  clear g0
  have HQ : Hid (ov o r fs = (inB o 0 255 && inB (n : Int) 1 8 && inB r 0 (999 - (n : Int) + 1) && (List.range fs.length).all (oOk fs))) := Lib.hid (by rw [ov, HX.out])
  have hi0 : IntKind.i64.wrap (999 - (n : Int)) = 999 - (n : Int) := IntWalk.i64_in _ (by omega)
  have hi1 : IntKind.i64.wrap (999 - (n : Int) + 1) = 999 - (n : Int) + 1 := IntWalk.i64_in _ (by omega)
  cases h1 : inB o 0 255
  · go_enter Try.func26, Try.ntmps26
    go_wp2_with (go_at_call 63; refine (c_in _ _ _ _).mono ?_; rintro e w' ⟨rfl, rfl⟩)
    go_ret
    exact ⟨ret_bool (by rw [HQ.out, h1]; rfl), HG0.out⟩
  cases h2 : inB (n : Int) 1 8
  · go_enter Try.func26, Try.ntmps26
    go_wp2_with (go_at_call 63; refine (c_in _ _ _ _).mono ?_; rintro e w' ⟨rfl, rfl⟩)
    go_ret
    exact ⟨ret_bool (by rw [HQ.out, h1, h2]; rfl), HG0.out⟩
  cases h3 : inB r 0 (999 - (n : Int) + 1)
  · go_enter Try.func26, Try.ntmps26
    go_wp2_with (go_at_call 63; refine (c_in _ _ _ _).mono ?_; rintro e w' ⟨rfl, rfl⟩)
    go_ret
    exact ⟨ret_bool (by rw [HQ.out, h1, h2, h3]; rfl), HG0.out⟩
  have HQ2 : Hid ((inB o 0 255 && inB (fs.length : Int) 1 8 && inB r 0 (999 - (fs.length : Int) + 1)) = true) := Lib.hid (by rw [HX.out, h1, h2, h3]; rfl)
  have hmm := @run_makeMap Try.prog
  go_enter Try.func26, Try.ntmps26
  go_wp2_with (go_at_call 63; refine (c_in _ _ _ _).mono ?_; rintro e w' ⟨rfl, rfl⟩)
  clear HG0 HQ hmm
  go_loopw [32] (fun i wr => ∃ (k m : Nat), k ≤ n ∧ m ≤ k ∧ i = .int .i64 k ∧ Below w.heap.size w wr ∧ Box wr w.heap.size 25 [.int .i64 o, .int .i64 r, .slice a n cap] ∧ Seen wr (w.heap.size + 1) m (busy (fs.take k)) ∧ Hid (∀ j, j < k → oOk fs j = true)) (fun i _ => n - (intOf i).toNat)
  case atStart =>
    refine ⟨0, 0, Nat.zero_le _, Nat.le_refl _, rfl, by go_grown, (Box.new _ _ _).alloc _, ?_, Lib.hid fun j hj => by omega⟩
    have := Seen.made (w.alloc (.cells #[.int .i64 o, .int .i64 r, .slice a n cap] 25))
    rwa [World.size_alloc] at this
  case round =>
    obtain ⟨k, m, hk, hmk, rfl, hG, hB, hS, HV⟩ := hrel
    have HG := Lib.hid hG
    have HBX := Lib.hid hB
    have HSN := Lib.hid hS
    have hz := hG.size
    have hsz : w.heap.size + 1 < wr.heap.size := hS.lt
    clear hG hB hS
    by_cases hlt : k < n
    · obtain ⟨b, off, rfl, hb, hc⟩ := (HI.out.below HG.out).at HX.out hlt
      obtain ⟨c0, c1, c2, c3, c4⟩ := hc k hlt
      have HT : Hid (oOk fs k = (decide (fs.getD k z5 = z5) || (fv (fs.getD k z5) && !(decide (fs.getD k z5 ∈ fs.take k))))) := Lib.hid rfl
      have HSK := Lib.hid (fun h => busy_skip (fs := fs) HX.out hlt h)
      have HMO := Lib.hid (fun h => busy_more (fs := fs) HX.out hlt h)
      clear hc
      generalize fs.getD k z5 = E at *
      obtain ⟨x0, x1, x2, x3, x4⟩ := E
      dsimp only at c0 c1 c2 c3 c4
      have hz2 : w.heap.size ≤ (wr.alloc (.cells #[.int .i64 x0, .int .i64 x1, .int .i64 x2, .int .i64 x3, .int .i64 x4] 27)).heap.size := by simp; omega
      have HGood : Hid (oOk fs k = true → ∀ j, j < k + 1 → oOk fs j = true) := Lib.hid (fun h j hj => by
        by_cases hjk : j = k
        · subst hjk; exact h
        · exact HV.out j (by omega))
      have HBad : Hid (oOk fs k = false → ov o r fs = false) := Lib.hid (fun h => ov_not (by rw [HX.out]; exact hlt) h)
      obtain ⟨W, hW, gW, sW, bW⟩ := head1 wr 27 [.int .i64 x0, .int .i64 x1, .int .i64 x2, .int .i64 x3, .int .i64 x4]
      have HW := Lib.hid hW
      have HG2 := Lib.hid (Below.step HG.out gW hz)
      have HBX2 := Lib.hid (HBX.out.keep gW)
      have HSN2 := Lib.hid (HSN.out.below gW)
      have HS2 := Lib.hid sW
      have HF2 := Lib.hid bW
      clear hW gW sW bW
      by_cases hzz : ((x0, x1, x2, x3, x4) : F5) = z5
      · have hqe := eqlF_yes' (y0 := 0) (y1 := 0) (y2 := 0) (y3 := 0) (y4 := 0) hzz
        have HSK2 := Lib.hid (HSK.out hzz)
        have HV2 := Lib.hid (HGood.out (by rw [HT.out, decide_eq_true hzz]; rfl))
        clear hzz HSK HMO HT HGood HBad
        go_wp2_with fail
        rw [← HW.out]
        go_roundw
        case rel => exact ⟨k + 1, m, by omega, by omega, by go_num, HG2.out, HBX2.out, by rw [HSK2.out]; exact HSN2.out, HV2⟩
        case measure => simp [intOf]; omega
      have hqe := eqlF_no' (y0 := 0) (y1 := 0) (y2 := 0) (y3 := 0) (y4 := 0) hzz
      have HMO2 := Lib.hid (HMO.out hzz)
      have HT2 := Lib.hid (HT.out.trans (by rw [decide_eq_false hzz, Bool.false_or]))
      have HNZ := Lib.hid hzz
      clear HT HSK HMO hzz
      go_wp2_with fail
      rw [← HW.out]
      (refine (c_FlowValid (x0, x1, x2, x3, x4) _).mono ?_)
      rintro e w6 ⟨rfl, b6⟩
      have HG6 := Lib.hid (Below.step HG2.out b6 (by rw [HS2.out]; omega))
      have HBX6 := Lib.hid (HBX2.out.keep b6)
      have HSN6 := Lib.hid (HSN2.out.below b6)
      have hz6 := b6.size
      rw [HS2.out] at hz6
      obtain ⟨q0, q1, q2, q3, q4, qf⟩ := (HF2.out.keep b6).five
      clear b6 HG2 HBX2 HSN2 HS2 HF2 HW c0 c1 c2 c3 c4
      cases h5 : fv (x0, x1, x2, x3, x4)
      · have HR := Lib.hid (HBad.out (by rw [HT2.out, h5]; rfl))
        clear HBad HGood HT2
        go_wp2
        go_ret
        exact ⟨ret_bool HR.out.symm, HG6.out⟩
      have HFV := Lib.hid h5
      rw [h5, Bool.true_and] at HT2
      by_cases h6 : ((x0, x1, x2, x3, x4) : F5) ∈ fs.take k
      · have hlk := HSN6.out.look h5
        rw [decide_eq_true ((busy_mem HNZ.out).2 h6)] at hlk
        unfold fvv at hlk
        have HR := Lib.hid (HBad.out (by rw [HT2.out, decide_eq_true h6]; rfl))
        clear HBad HGood HT2 h6 h5
        go_wp2
        go_ret
        exact ⟨ret_bool HR.out.symm, HG6.out⟩
      have hlk := HSN6.out.look h5
      rw [decide_eq_false (fun h => h6 ((busy_mem HNZ.out).1 h))] at hlk
      unfold fvv at hlk
      have HV2 := Lib.hid (HGood.out (by rw [HT2.out, decide_eq_false h6]; rfl))
      have hlt6 := HSN6.out.lt
      clear HBad HGood HT2 h6 h5
      go_wp2_with (at_mapUpdate; refine wpl_seen _ rfl _ _ _ rfl (w.heap.size + 1) m _ rfl HSN6.out (by unfold maxLen; omega) (x0, x1, x2, x3, x4) HFV.out rfl rfl ?_)
      intro w7 hs7 hg7
      have HS7 := Lib.hid hs7
      have HG7 := Lib.hid hg7
      clear hs7 hg7
      go_wp2
      go_roundw
      case rel => exact ⟨k + 1, m + 1, by omega, by omega, by go_num, below_rw HG6.out HG7.out (by omega), HBX6.out.kept HG7.out (by simp), by rw [HMO2.out]; exact HS7.out, HV2⟩
      case measure => simp [intOf]; omega
    · obtain rfl : k = n := by omega
      have HR := Lib.hid (ov_of (o := o) (r := r) (fs := fs) (by rw [HX.out]; exact HV.out))
      go_wp2
      go_ret
      exact ⟨ret_bool (by rw [HR.out, HQ2.out]), HG.out⟩
end Go.Proofs.Ytalalapjanckdaa
/- OutletValid of the reference. No condition but lists of at most 2^20 flows. -/
namespace Go.Proofs.Ytalalapjanckdaa
open Go.RowKit
set_option maxRecDepth 100000 in
set_option maxHeartbeats 8000000 in
theorem s_OutletValid (o r : Int) (a : Option Addr) (n cap : Nat) (fs : List F5) (w : World) (hxs : fs.length = n) (hn : n ≤ 1048576) (h : Flws w a fs) :
    Calls Try.prog 53 #[.agg #[.int .i64 o, .int .i64 r, .slice a n cap]] w fun e w' => e = .returned (.bool (ov o r fs)) ∧ Below w.heap.size w w' := by
  have HX := Lib.hid hxs
  have HI := Lib.hid h
  clear h hxs
  go_enter Try.func53, Try.ntmps53
  go_wp2
  go_loopw [3] (fun i wr => ∃ (k : Nat), k ≤ n ∧ i = .int .i64 k ∧ Below w.heap.size w wr ∧ Box wr w.heap.size 25 [.int .i64 o, .int .i64 r, .slice a n cap] ∧ Hid (∀ j, j < k → oOk fs j = true)) (fun i _ => n - (intOf i).toNat)
  case atStart => exact ⟨0, Nat.zero_le _, rfl, (Below.refl _ _).alloc (Nat.le_refl _) _, Box.new _ _ _, Lib.hid fun j hj => by omega⟩
  case round =>
    obtain ⟨k, hk, rfl, hG, hB, HV⟩ := hrel
    have HG := Lib.hid hG
    have HBX := Lib.hid hB
    have hz := hG.size
    have hszb := hB.lt
    clear hG hB
    obtain ⟨t0, t1, t2, ft⟩ := HBX.out.three
    by_cases hlt : k < n
    · obtain ⟨b, off, rfl, hb, _⟩ := (HI.out.below HG.out).at HX.out hlt
      have HGood : Hid (oOk fs k = true → ∀ j, j < k + 1 → oOk fs j = true) := Lib.hid (fun h j hj => by
        by_cases hjk : j = k
        · subst hjk; exact h
        · exact HV.out j (by omega))
      have HBad : Hid (oOk fs k = false → ov o r fs = false) := Lib.hid (fun h => ov_not (by rw [HX.out]; exact hlt) h)
      have HT : Hid (oOk fs k = (decide (fs.getD k z5 = z5) || (fv (fs.getD k z5) && !(decide (fs.getD k z5 ∈ fs.take k))))) := Lib.hid rfl
      have HMem : Hid (∀ j, j < k → fs.getD j z5 = fs.getD k z5 → fs.getD k z5 ∈ fs.take k) := Lib.hid (fun j hj he => by
        rw [← he, List.mem_take_iff_getElem]
        exact ⟨j, by have := HX.out; omega, by rw [List.getD_eq_getElem?_getD, List.getElem?_eq_getElem (by have := HX.out; omega)]; rfl⟩)
      have HNo : Hid ((∀ j, j < k → fs.getD j z5 ≠ fs.getD k z5) → fs.getD k z5 ∉ fs.take k) := Lib.hid (fun hno hm => by
        obtain ⟨j, hj, he⟩ := List.mem_take_iff_getElem.1 hm
        refine hno j (by omega) ?_
        rw [List.getD_eq_getElem?_getD, List.getElem?_eq_getElem (by omega)]
        exact he)
      clear HV
      go_wp2
      generalize hgb : wr.heap.size = gb at *
      obtain ⟨wA, rfl⟩ : ∃ x, x = wr := ⟨_, rfl⟩
      have HGA := Lib.hid HG.out
      have HBA := Lib.hid HBX.out
      clear t0 t1 t2 ft HG HBX
      go_loopw [4] (fun i wr => ∃ (j : Nat), j ≤ k ∧ i = .int .i64 j ∧ Below w.heap.size w wr ∧ Box wr w.heap.size 25 [.int .i64 o, .int .i64 r, .slice (some ⟨b, off, none⟩) n cap] ∧ Hid (fs.getD k z5 = z5 ∨ ∀ i, i < j → fs.getD i z5 ≠ fs.getD k z5)) (fun i _ => k - (intOf i).toNat)
      case atStart => exact ⟨0, Nat.zero_le _, rfl, HGA.out, HBA.out, Lib.hid (.inr fun j hj => by omega)⟩
      case round =>
        obtain ⟨j, hj, rfl, hG, hB, HV⟩ := hrel
        have HG := Lib.hid hG
        have HBX := Lib.hid hB
        clear hG hB
        obtain ⟨t0, t1, t2, ft⟩ := HBX.out.three
        obtain ⟨b', off', hbe, hb', hc⟩ := (HI.out.below HG.out).at HX.out hlt
        cases hbe
        obtain ⟨c0, c1, c2, c3, c4⟩ := hc k hlt
        have hcj := Lib.hid (fun (h : j < k) => hc j (by omega))
        clear hc
        have HEQ := Lib.hid (rfl : fs.getD k z5 = fs.getD k z5)
        obtain ⟨E, hE⟩ : ∃ E, E = fs.getD k z5 := ⟨_, rfl⟩
        rw [← hE] at c0 c1 c2 c3 c4
        have HE := Lib.hid hE
        clear hE HEQ
        obtain ⟨x0, x1, x2, x3, x4⟩ := E
        dsimp only at c0 c1 c2 c3 c4
        by_cases hjk : j < k
        · obtain ⟨d0, d1, d2, d3, d4⟩ := hcj.out hjk
          obtain ⟨E2, hE2⟩ : ∃ E2, E2 = fs.getD j z5 := ⟨_, rfl⟩
          rw [← hE2] at d0 d1 d2 d3 d4
          have HE2 := Lib.hid hE2
          clear hE2 hcj
          obtain ⟨q0, q1, q2, q3, q4⟩ := E2
          dsimp only at d0 d1 d2 d3 d4
          have hjn : j < n := by omega
          by_cases hq : ((q0, q1, q2, q3, q4) : F5) = (x0, x1, x2, x3, x4)
          · have hqe := eqlF_yes' hq
            by_cases hzz : ((x0, x1, x2, x3, x4) : F5) = z5
            · have hqn := neqF_no' (y0 := 0) (y1 := 0) (y2 := 0) (y3 := 0) (y4 := 0) hzz
              have HV2 : Hid (fs.getD k z5 = z5 ∨ ∀ i, i < j + 1 → fs.getD i z5 ≠ fs.getD k z5) := Lib.hid (.inl (by rw [← HE.out]; exact hzz))
              clear hq hzz
              go_wp2
              go_quiet (fail)
              go_wp2
              go_roundw
              case rel => exact ⟨j + 1, by omega, by go_num, below_drewN HG.out _, HBX.out.drewN _, HV2⟩
              case measure => simp [intOf]; omega
            · have hqn := neqF_yes' (y0 := 0) (y1 := 0) (y2 := 0) (y3 := 0) (y4 := 0) hzz
              have HR := Lib.hid (HBad.out (by
                rw [HT.out, decide_eq_true (HMem.out j hjk (by rw [← HE.out, ← HE2.out]; exact hq)), ← HE.out, decide_eq_false hzz]; simp))
              clear hq hzz
              go_wp2
              go_quiet (fail)
              go_wp2
              go_ret
              exact ⟨ret_bool HR.out.symm, below_drewN HG.out _⟩
          · have hqe := eqlF_no' hq
            have HV2 : Hid (fs.getD k z5 = z5 ∨ ∀ i, i < j + 1 → fs.getD i z5 ≠ fs.getD k z5) := Lib.hid (by
              rcases HV.out with h | h
              · exact .inl h
              · refine .inr fun i hi => ?_
                by_cases hij : i = j
                · subst hij; rw [← HE.out, ← HE2.out]; exact hq
                · exact h i (by omega))
            clear hq
            go_wp2
            go_quiet (fail)
            go_wp2
            go_roundw
            case rel => exact ⟨j + 1, by omega, by go_num, below_drewN HG.out _, HBX.out.drewN _, HV2⟩
            case measure => simp [intOf]; omega
        · obtain rfl : j = k := by omega
          clear hcj
          by_cases hzz : ((x0, x1, x2, x3, x4) : F5) = z5
          · have hqn := neqF_no' (y0 := 0) (y1 := 0) (y2 := 0) (y3 := 0) (y4 := 0) hzz
            have HV2 := Lib.hid (HGood.out (by rw [HT.out, ← HE.out, decide_eq_true hzz]; rfl))
            clear hzz
            go_wp2
            go_roundw
            case rel => exact ⟨j + 1, by omega, by go_num, HG.out, HBX.out, HV2⟩
            case measure => simp [intOf]; omega
          · have hqn := neqF_yes' (y0 := 0) (y1 := 0) (y2 := 0) (y3 := 0) (y4 := 0) hzz
            have HT2 := Lib.hid (HT.out.trans (by rw [← HE.out, decide_eq_false hzz, Bool.false_or]))
            have HNM := Lib.hid (HNo.out (by
              rcases HV.out with h | h
              · exact absurd (HE.out.trans h) hzz
              · exact h))
            clear hzz
            go_wp2_with fail
            (refine (s_FlowValid (x0, x1, x2, x3, x4) _).mono ?_)
            rintro e w6 ⟨rfl, b6⟩
            have HG6 := Lib.hid (Below.step HG.out b6 HG.out.size)
            have HBX6 := Lib.hid (HBX.out.keep b6)
            clear b6 c0 c1 c2 c3 c4 t0 t1 t2 ft
            cases h5 : fv (x0, x1, x2, x3, x4)
            · have HR := Lib.hid (HBad.out (by rw [HT2.out, h5]; rfl))
              clear h5
              go_wp2
              go_ret
              exact ⟨ret_bool HR.out.symm, HG6.out⟩
            · have HV2 := Lib.hid (HGood.out (by rw [HT2.out, h5, HE.out, decide_eq_false HNM.out]; rfl))
              clear h5
              go_wp2
              go_roundw
              case rel => exact ⟨j + 1, by omega, by go_num, HG6.out, HBX6.out, HV2⟩
              case measure => simp [intOf]; omega
    · obtain rfl : k = n := by omega
      have hi0 : IntKind.i64.wrap (999 - (k : Int)) = 999 - (k : Int) := IntWalk.i64_in _ (by omega)
      have hi1 : IntKind.i64.wrap (999 - (k : Int) + 1) = 999 - (k : Int) + 1 := IntWalk.i64_in _ (by omega)
      have HR := Lib.hid ((ov_of (o := o) (r := r) (fs := fs) (by rw [HX.out]; exact HV.out)).trans (by rw [HX.out]))
      cases h1 : inB o 0 255
      · go_wp2_with (go_at_call 73; refine (c_l1In _ _ _ _).mono ?_; rintro e w' ⟨rfl, rfl⟩)
        go_ret
        exact ⟨ret_bool (by rw [HR.out, h1]; rfl), HG.out⟩
      cases h2 : inB (k : Int) 1 8
      · go_wp2_with (go_at_call 73; refine (c_l1In _ _ _ _).mono ?_; rintro e w' ⟨rfl, rfl⟩)
        go_ret
        exact ⟨ret_bool (by rw [HR.out, h1, h2]; rfl), HG.out⟩
      go_wp2_with (go_at_call 73; refine (c_l1In _ _ _ _).mono ?_; rintro e w' ⟨rfl, rfl⟩)
      go_ret
      exact ⟨ret_bool (by rw [HR.out, h1, h2]; rfl), HG.out⟩
end Go.Proofs.Ytalalapjanckdaa
/- Outlets: copies; where a flow stands. No condition but lists of at most 2^20 flows. -/
namespace Go.Proofs.Ytalalapjanckdaa
open Go.RowKit
/-- An outlet's copy is handed back: its list is a new one. -/
def RetOut (w : World) (oo rr : Int) (fs : List F5) (e : Ending) (w' : World) : Prop :=
  ∃ (a : Option Addr) (cap : Nat), e = .returned (.agg #[.int .i64 oo, .int .i64 rr, .slice a fs.length cap]) ∧ w'.ownsRow w.heap.size 27 5 (.slice a fs.length cap) fs.length (fCells fs) ∧ w.grownBy w' none
set_option maxHeartbeats 800000 in
theorem c_clone (oo rr : Int) (a : Option Addr) (n cap : Nat) (fs : List F5) (w : World) (hxs : fs.length = n) (hn : n ≤ 1048576) (h : Flws w a fs) (ha : a = none → n = 0 ∧ cap = 0) :
    Calls Try.prog 51 #[.agg #[.int .i64 oo, .int .i64 rr, .slice a n cap]] w (RetOut w oo rr fs) := by
  have g0 : Below w.heap.size w ((w.alloc (.cells #[.int .i64 oo, .int .i64 rr, .slice a n cap] 25)).alloc (.cells #[.int .i64 0, .int .i64 0, .slice none 0 0] 25)) := ((Below.refl _ _).alloc (Nat.le_refl _) _).alloc (by simp) _
  have HX := Lib.hid hxs
  have HG := Lib.hid g0
  have HI := Lib.hid (Ints.vals h)
  have HA := Lib.hid ha
  clear g0 h ha hxs
  go_enter Try.func51, Try.ntmps51
  go_wp2_with (at_builtin; refine wpl_appA _ rfl elemFlow (.const (.slice none 0 0)) (.tmp 4) rfl w.heap.size (.slice none 0 0) 0 [] rfl (row_nil _ _ _ _) a n cap (fCells fs) rfl (Vals.below HI.out HG.out) (by rw [List.length_map, fInts_len, HX.out]) (ints_one _) HA.out (by omega) (by simp; omega) n (Nat.zero_add n) (fCells fs) rfl ?_)
  intro a' cap' w1 ho hg hat
  have HO := Lib.hid ho
  have HT := Lib.hid hat
  have HB := Lib.hid (grown_below hg)
  clear ho hg hat
  have hz1 := HB.out.size
  simp only [World.size_alloc] at hz1
  obtain ⟨x0, x1, x2, fx⟩ := (((Box.new w 25 [.int .i64 oo, .int .i64 rr, .slice a n cap]).alloc _).keep HB.out).three
  obtain ⟨y0, y1, y2, fy⟩ := ((Box.new2 (w.alloc (.cells #[.int .i64 oo, .int .i64 rr, .slice a n cap] 25)) 25 [.int .i64 0, .int .i64 0, .slice none 0 0] (w.heap.size + 1) (by simp)).keep HB.out).three
  go_wp2
  have hq : Below w.heap.size w w1 := HG.out.trans (HB.out.mono (by simp; omega))
  have hblk : (Value.slice a' n cap').ownBlock ≠ some w.heap.size ∧ (Value.slice a' n cap').ownBlock ≠ some (w.heap.size + 1) := by
    have ht := HT.out
    rcases ht with h | h
    · rw [h]; exact ⟨by simp [Value.ownBlock], by simp [Value.ownBlock]⟩
    · rw [h]; exact ⟨fun e => by injection e; omega, fun e => by injection e; omega⟩
  refine bodyPost_ret (v := .agg #[.int .i64 oo, .int .i64 rr, .slice a' n cap']) (by simp [results, Try.results51, go_sem, y0, y1, y2]) rfl ?_
  obtain rfl := HX.out
  refine ⟨a', cap', rfl, ?_, below_grown ?_⟩
  · exact row_set (row_set (row_set (row_set HO.out _ _ hblk.1) _ _ hblk.2) _ _ hblk.2) _ _ hblk.2
  · go_grown
/-- .. and it is not nil. -/
def RetOutN (w : World) (oo rr : Int) (fs : List F5) (e : Ending) (w' : World) : Prop :=
  ∃ (a : Option Addr) (cap : Nat), e = .returned (.agg #[.int .i64 oo, .int .i64 rr, .slice a fs.length cap]) ∧ w'.ownsRow w.heap.size 27 5 (.slice a fs.length cap) fs.length (fCells fs) ∧ w.grownBy w' none ∧ ∃ g, a = some ⟨g, 0, none⟩
set_option maxHeartbeats 1600000 in
theorem s_copy (oo rr : Int) (a : Option Addr) (n cap : Nat) (fs : List F5) (w : World) (hxs : fs.length = n) (hn : n ≤ 1048576) (h : Flws w a fs) (ha : a = none → n = 0 ∧ cap = 0) :
    Calls Try.prog 55 #[.agg #[.int .i64 oo, .int .i64 rr, .slice a n cap]] w (RetOutN w oo rr fs) := by
  obtain ⟨W, hW, gW, sW, bx, by1⟩ := headB w 25 25 [.int .i64 oo, .int .i64 rr, .slice a n cap] [.int .i64 0, .int .i64 0, .slice none 0 0]
  have HX := Lib.hid hxs
  have HG := Lib.hid gW
  have HW := Lib.hid hW
  have HS := Lib.hid sW
  have HA := Lib.hid ha
  have HBX := Lib.hid bx
  have HBY := Lib.hid by1
  have HI := Lib.hid (Ints.vals (h.below gW))
  obtain ⟨x0, x1, x2, fx⟩ := bx.three
  clear hxs gW hW sW ha bx by1 h fx
  go_enter Try.func55, Try.ntmps55
  go_wp2_with fail
  rw [← HW.out]
  have hW2 : w.heap.size < W.heap.size := by have := HS.out; omega
  have H1 : Hid ((W.alloc (.cells #[] 27)).drew.ownsRow W.heap.size 27 5 (.slice (some ⟨W.heap.size, 0, none⟩) 0 0) 0 []) := Lib.hid (row_emp W _ _ _ rfl (Nat.le_refl _)).drew
  have A1 : Hid (Below W.heap.size W (W.alloc (.cells #[] 27)).drew) := Lib.hid ((Below.refl _ _).alloc (Nat.le_refl _) _).drew
  have hw1 : w.heap.size + 1 < W.heap.size := by have := HS.out; omega
  have HL := Lib.hid (show (fCells fs).length = n * 5 by rw [List.length_map, fInts_len, HX.out])
  have HY1 : Hid (Box (W.alloc (.cells #[] 27)).drew (w.heap.size + 1) 25 [.int .i64 0, .int .i64 0, .slice none 0 0]) := Lib.hid (HBY.out.alloc _).drew
  go_region_held3 (fun w' => w'.cell? ⟨w.heap.size, 0, none⟩ = some (.int .i64 oo) ∧ w'.cell? ⟨w.heap.size, 1, none⟩ = some (.int .i64 rr) ∧ w'.cell? ⟨w.heap.size, 2, none⟩ = some (.slice a n cap)) (first | (with_reducible exact ⟨keepD0 x0, keepD0 x1, keepD0 x2⟩) | (with_reducible exact ⟨keepD1 x0 _, keepD1 x1 _, keepD1 x2 _⟩) | (with_reducible exact ⟨kk0, kk1, kk2⟩) | (with_reducible exact ⟨keepS kk0 (by omega), keepS kk1 (by omega), keepS kk2 (by omega)⟩) | (trace "KEEP"; trace_state; fail))
      (first
        | (refine step_appA _ rfl elemFlow (.tmp 7) (.tmp 9) rfl W.heap.size (.slice (some ⟨W.heap.size, 0, none⟩) 0 0) 0 [] rfl H1.out a n cap (fCells fs) rfl (Vals.below HI.out A1.out) HL.out (ints_one _) HA.out (by omega) (by simp) n (Nat.zero_add n) (fCells fs) rfl ?_
           intro a5 c5 w5 hown5 hgrow5 hat5
           have HO5 := Lib.hid hown5
           have HB5 : Hid (Below W.heap.size W w5) := Lib.hid (A1.out.grown hgrow5 (by simp) (by simp [Value.ownBlock]))
           have HZ5 : Hid ((Value.slice a5 n c5).ownBlock = some W.heap.size ∨ (Value.slice a5 n c5).ownBlock = some (W.heap.size + 1)) := Lib.hid (by simpa [Value.ownBlock] using hat5)
           have HY5 : Hid (Box w5 (w.heap.size + 1) 25 [.int .i64 0, .int .i64 0, .slice none 0 0]) := Lib.hid (HY1.out.kept hgrow5 (by simp [Value.ownBlock]; omega))
           obtain ⟨m0, m1, m2, mf⟩ := HY5.out.three
           have kk0 : w5.cell? ⟨w.heap.size, 0, none⟩ = some (.int .i64 oo) := hgrow5.cell (keep x0 _) (by simp [Value.ownBlock]; omega)
           have kk1 : w5.cell? ⟨w.heap.size, 1, none⟩ = some (.int .i64 rr) := hgrow5.cell (keep x1 _) (by simp [Value.ownBlock]; omega)
           have kk2 : w5.cell? ⟨w.heap.size, 2, none⟩ = some (.slice a n cap) := hgrow5.cell (keep x2 _) (by simp [Value.ownBlock]; omega)))
  have hne : (Value.slice a5 n c5).ownBlock ≠ some (w.heap.size + 1) := by rcases HZ5.out with h | h <;> rw [h] <;> intro e <;> injection e with e <;> omega
  go_wp2_with fail
  refine bodyPost_ret (v := .agg #[.int .i64 oo, .int .i64 rr, .slice a5 n c5]) (by simp [results, Try.results55, go_sem, m0, m1, m2]) rfl ?_
  obtain rfl := HX.out
  have hsm : ∃ g, a5 = some ⟨g, 0, none⟩ := by
    rcases HZ5.out with h | h
    · exact ⟨_, own_some HO5.out h⟩
    · exact ⟨_, own_some HO5.out h⟩
  have hb : Below w.heap.size w w5 := HG.out.trans (HB5.out.mono (by omega))
  refine ⟨a5, c5, rfl, ?_, below_grown ?_, hsm⟩
  · exact row_wider (row_set (row_set (row_set HO5.out _ _ hne) _ _ hne) _ _ hne) (by omega)
  · go_grown
/-- The place of a flow, or -1. -/
def qOf (fs : List F5) (f : F5) : Int := match fs.findIdx? (fun e => decide (e = f)) with | some k => (k : Int) | none => -1
theorem qOf_hit {fs : List F5} {f : F5} {k : Nat} (hk : k < fs.length) (h : fs.getD k z5 = f) (hn : ∀ j, j < k → fs.getD j z5 ≠ f) : qOf fs f = (k : Int) := by
  have : fs.findIdx? (fun e => decide (e = f)) = some k := by
    rw [List.findIdx?_eq_some_iff_getElem]
    refine ⟨hk, ?_, fun j hj => ?_⟩
    · rw [List.getD_eq_getElem?_getD, List.getElem?_eq_getElem hk] at h
      simpa using h
    · have := hn j hj
      rw [List.getD_eq_getElem?_getD, List.getElem?_eq_getElem (by omega)] at this
      simpa using this
  rw [qOf, this]
theorem qOf_none {fs : List F5} {f : F5} (hn : ∀ j, j < fs.length → fs.getD j z5 ≠ f) : qOf fs f = -1 := by
  have : fs.findIdx? (fun e => decide (e = f)) = none := by
    rw [List.findIdx?_eq_none_iff]
    intro x hx
    obtain ⟨j, hj, rfl⟩ := List.getElem_of_mem hx
    have := hn j hj
    rw [List.getD_eq_getElem?_getD, List.getElem?_eq_getElem hj] at this
    simpa using this
  rw [qOf, this]
theorem qOf_cases (fs : List F5) (f : F5) : (f ∉ fs ∧ qOf fs f = -1) ∨ (f ∈ fs ∧ ∃ j : Nat, qOf fs f = (j : Int) ∧ j < fs.length ∧ fs.getD j z5 = f ∧ ∀ i, i < j → fs.getD i z5 ≠ f) := by
  unfold qOf
  cases h : fs.findIdx? (fun e => decide (e = f)) with
  | none =>
    left
    refine ⟨?_, rfl⟩
    rw [List.findIdx?_eq_none_iff] at h
    intro hm
    have := h f hm
    simp at this
  | some k =>
    right
    rw [List.findIdx?_eq_some_iff_getElem] at h
    obtain ⟨hk, h1, h2⟩ := h
    have h1' : fs[k] = f := by simpa using h1
    refine ⟨h1' ▸ List.getElem_mem hk, k, rfl, hk, ?_, fun i hi => ?_⟩
    · rw [List.getD_eq_getElem?_getD, List.getElem?_eq_getElem hk]; exact h1'
    · rw [List.getD_eq_getElem?_getD, List.getElem?_eq_getElem (by omega)]
      have := h2 i hi
      simpa using this
set_option maxHeartbeats 2000000 in
theorem c_Index (f : F5) (a : Option Addr) (n cap : Nat) (fs : List F5) (w : World) (hxs : fs.length = n) (hn : n ≤ 1048576) (h : Flws w a fs) :
    Calls Try.prog 52 #[.slice a n cap, fvv f] w fun e w' => e = .returned (.int .i64 (qOf fs f)) ∧ Below w.heap.size w w' := by
  have HX := Lib.hid hxs
  have HI := Lib.hid h
  clear h hxs
  obtain ⟨y0, y1, y2, y3, y4⟩ := f
  unfold fvv
  go_enter Try.func52, Try.ntmps52
  go_wp2
  go_loopw [8] (fun i wr => ∃ (k : Nat), k ≤ n ∧ i = .int .i64 k ∧ Below w.heap.size w wr ∧ Box wr w.heap.size 27 [.int .i64 y0, .int .i64 y1, .int .i64 y2, .int .i64 y3, .int .i64 y4] ∧ Hid (∀ j, j < k → fs.getD j z5 ≠ (y0, y1, y2, y3, y4))) (fun i _ => n - (intOf i).toNat)
  case atStart => exact ⟨0, Nat.zero_le _, rfl, (Below.refl _ _).alloc (Nat.le_refl _) _, Box.new _ _ _, Lib.hid fun j hj => by omega⟩
  case round =>
    obtain ⟨k, hk, rfl, hG, hB, HV⟩ := hrel
    have HG := Lib.hid hG
    have HB := Lib.hid hB
    clear hG hB
    by_cases hlt : k < n
    · obtain ⟨b, off, rfl, hb, hc⟩ := (HI.out.below HG.out).at HX.out hlt
      obtain ⟨c0, c1, c2, c3, c4⟩ := hc k hlt
      obtain ⟨t0, t1, t2, t3, t4, ft⟩ := HB.out.five
      clear hc
      generalize hE : fs.getD k z5 = E at *
      obtain ⟨x0, x1, x2, x3, x4⟩ := E
      have HF : Hid (fs.getD k z5 = (x0, x1, x2, x3, x4)) := Lib.hid (by rw [hE])
      clear hE
      dsimp only at c0 c1 c2 c3 c4
      by_cases hq : ((x0, x1, x2, x3, x4) : F5) = (y0, y1, y2, y3, y4)
      · have hqe : ∀ w, (binOp .eql 27 (.agg #[.int .i64 y0, .int .i64 y1, .int .i64 y2, .int .i64 y3, .int .i64 y4]) (.agg #[.int .i64 x0, .int .i64 x1, .int .i64 x2, .int .i64 x3, .int .i64 x4])).run Try.prog w = .ok (.bool true) w := eqlF_yes' hq.symm
        have HQ := Lib.hid hq
        clear hq
        go_wp2
        go_quiet (fail)
        go_wp2
        go_ret
        exact ⟨ret_int (qOf_hit (by rw [HX.out]; exact hlt) (HF.out.trans HQ.out) HV.out).symm, below_drewN HG.out _⟩
      · have hqe : ∀ w, (binOp .eql 27 (.agg #[.int .i64 y0, .int .i64 y1, .int .i64 y2, .int .i64 y3, .int .i64 y4]) (.agg #[.int .i64 x0, .int .i64 x1, .int .i64 x2, .int .i64 x3, .int .i64 x4])).run Try.prog w = .ok (.bool false) w := eqlF_no' (Ne.symm hq)
        have HQ := Lib.hid hq
        clear hq
        go_wp2
        go_quiet (fail)
        go_wp2
        go_roundw
        case rel =>
          refine ⟨k + 1, by omega, by go_num, below_drewN HG.out _, HB.out, Lib.hid fun j hj => ?_⟩
          by_cases hjk : j = k
          · subst hjk; rw [HF.out]; exact HQ.out
          · exact HV.out j (by omega)
        case measure => simp [intOf]; omega
    · obtain rfl : k = n := by omega
      go_wp2
      go_ret
      exact ⟨ret_int (qOf_none (by rw [HX.out]; exact HV.out)).symm, HG.out⟩
set_option maxHeartbeats 2000000 in
theorem s_Place (oo rr : Int) (f : F5) (a : Option Addr) (n cap : Nat) (fs : List F5) (w : World) (hxs : fs.length = n) (hn : n ≤ 1048576) (h : Flws w a fs) :
    Calls Try.prog 56 #[.agg #[.int .i64 oo, .int .i64 rr, .slice a n cap], fvv f] w fun e w' => e = .returned (.int .i64 (qOf fs f)) ∧ Below w.heap.size w w' := by
  have HX := Lib.hid hxs
  have HI := Lib.hid h
  clear h hxs
  obtain ⟨y0, y1, y2, y3, y4⟩ := f
  unfold fvv
  go_enter Try.func56, Try.ntmps56
  go_wp2
  go_loopw [5] (fun i wr => ∃ (k : Nat), k ≤ n ∧ i = .int .i64 k ∧ Below w.heap.size w wr ∧ Box wr w.heap.size 25 [.int .i64 oo, .int .i64 rr, .slice a n cap] ∧ Box wr (w.heap.size + 1) 27 [.int .i64 y0, .int .i64 y1, .int .i64 y2, .int .i64 y3, .int .i64 y4] ∧ Hid (∀ j, j < k → fs.getD j z5 ≠ (y0, y1, y2, y3, y4))) (fun i _ => n - (intOf i).toNat)
  case atStart => exact ⟨0, Nat.zero_le _, rfl, ((Below.refl _ _).alloc (Nat.le_refl _) _).alloc (by simp) _, (Box.new _ _ _).alloc _, Box.new2 _ _ _ _ (by simp), Lib.hid fun j hj => by omega⟩
  case round =>
    obtain ⟨k, hk, rfl, hG, hO, hB, HV⟩ := hrel
    have HG := Lib.hid hG
    have HB := Lib.hid hB
    have HOB := Lib.hid hO
    have hz := hG.size
    obtain ⟨r0, r1, r2, fr⟩ := hO.three
    clear hG hB hO
    by_cases hlt : k < n
    · obtain ⟨b, off, rfl, hb, hc⟩ := (HI.out.below HG.out).at HX.out hlt
      obtain ⟨c0, c1, c2, c3, c4⟩ := hc k hlt
      obtain ⟨t0, t1, t2, t3, t4, ft⟩ := HB.out.five
      clear hc
      generalize hE : fs.getD k z5 = E at *
      obtain ⟨x0, x1, x2, x3, x4⟩ := E
      have HF : Hid (fs.getD k z5 = (x0, x1, x2, x3, x4)) := Lib.hid (by rw [hE])
      clear hE
      dsimp only at c0 c1 c2 c3 c4
      by_cases hq : ((x0, x1, x2, x3, x4) : F5) = (y0, y1, y2, y3, y4)
      · have hqe : ∀ w, (binOp .eql 27 (.agg #[.int .i64 x0, .int .i64 x1, .int .i64 x2, .int .i64 x3, .int .i64 x4]) (.agg #[.int .i64 y0, .int .i64 y1, .int .i64 y2, .int .i64 y3, .int .i64 y4])).run Try.prog w = .ok (.bool true) w := eqlF_yes' hq
        have HQ := Lib.hid hq
        clear hq
        go_wp2
        go_quiet (fail)
        go_wp2
        go_ret
        exact ⟨ret_int (qOf_hit (by rw [HX.out]; exact hlt) (HF.out.trans HQ.out) HV.out).symm, below_drewN HG.out _⟩
      · have hqe : ∀ w, (binOp .eql 27 (.agg #[.int .i64 x0, .int .i64 x1, .int .i64 x2, .int .i64 x3, .int .i64 x4]) (.agg #[.int .i64 y0, .int .i64 y1, .int .i64 y2, .int .i64 y3, .int .i64 y4])).run Try.prog w = .ok (.bool false) w := eqlF_no' hq
        have HQ := Lib.hid hq
        clear hq
        go_wp2
        go_quiet (fail)
        go_wp2
        go_roundw
        case rel =>
          refine ⟨k + 1, by omega, by go_num, below_drewN HG.out _, HOB.out, HB.out, Lib.hid fun j hj => ?_⟩
          by_cases hjk : j = k
          · subst hjk; rw [HF.out]; exact HQ.out
          · exact HV.out j (by omega)
        case measure => simp [intOf]; omega
    · obtain rfl : k = n := by omega
      go_wp2
      go_ret
      exact ⟨ret_int (qOf_none (by rw [HX.out]; exact HV.out)).symm, HG.out⟩
end Go.Proofs.Ytalalapjanckdaa
