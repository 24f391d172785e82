/- Texts laid together (Flo, DFlo, FloE, EntE, Seen, Tab, Feq, TabP, TabX, TabF, TabD, TabE). No condition but what each theorem says. -/
import Derived.Test.YtdkdfehlmphikaaMG
import Derived.Test.YtdkdfehlmphikaaMA
import Derived.Maps.Views
import Derived.Shelf.Abstract
/- Flows as five numbers: values, contracts of FlowValid, of the program and of the reference. No condition. -/
namespace Go.Proofs.Ytdkdfehlmphikaa
open Go.RowKit
/-- A flow: from, from's port, to, to's port, kind. -/
abbrev F5 := Int × Int × Int × Int × Int
def fI (f : F5) : List Int := [f.1, f.2.1, f.2.2.1, f.2.2.2.1, f.2.2.2.2]
def fvv (f : F5) : Value := .agg #[.int .i64 f.1, .int .i64 f.2.1, .int .i64 f.2.2.1, .int .i64 f.2.2.2.1, .int .i64 f.2.2.2.2]
/-- A flow is valid. -/
def fv (f : F5) : Bool := inB f.1 0 255 && inB f.2.2.1 0 255 && inB f.2.1 0 999 && inB f.2.2.2.1 0 999 && inB f.2.2.2.2 1 2
set_option maxHeartbeats 2000000 in
theorem c_FlowValid (f : F5) (w : World) : Calls Try.prog 62 #[fvv f] w fun e w' => e = .returned (.bool (fv f)) ∧ Below w.heap.size w w' := by
  have HR : Hid (fv f = (inB f.1 0 255 && inB f.2.2.1 0 255 && inB f.2.1 0 999 && inB f.2.2.2.1 0 999 && inB f.2.2.2.2 1 2)) := Lib.hid rfl
  obtain ⟨a, b, c, d, k⟩ := f
  unfold fvv
  have g0 : Below w.heap.size w (w.alloc (.cells #[.int .i64 a, .int .i64 b, .int .i64 c, .int .i64 d, .int .i64 k] 37)) := (Below.refl _ _).alloc (Nat.le_refl _) _
  cases h1 : inB a 0 255
  · go_enter Try.func62, Try.ntmps62
    go_wp2_with (go_at_call 63; refine (c_in _ _ _ _).mono ?_; rintro e w' ⟨rfl, rfl⟩)
    go_ret
    exact ⟨ret_bool (by rw [HR.out]; simp only [h1]; rfl), g0⟩
  cases h2 : inB c 0 255
  · go_enter Try.func62, Try.ntmps62
    go_wp2_with (go_at_call 63; refine (c_in _ _ _ _).mono ?_; rintro e w' ⟨rfl, rfl⟩)
    go_ret
    exact ⟨ret_bool (by rw [HR.out]; simp only [h1, h2]; rfl), g0⟩
  cases h3 : inB b 0 999
  · go_enter Try.func62, Try.ntmps62
    go_wp2_with (go_at_call 63; refine (c_in _ _ _ _).mono ?_; rintro e w' ⟨rfl, rfl⟩)
    go_ret
    exact ⟨ret_bool (by rw [HR.out]; simp only [h1, h2, h3]; rfl), g0⟩
  cases h4 : inB d 0 999
  · go_enter Try.func62, Try.ntmps62
    go_wp2_with (go_at_call 63; refine (c_in _ _ _ _).mono ?_; rintro e w' ⟨rfl, rfl⟩)
    go_ret
    exact ⟨ret_bool (by rw [HR.out]; simp only [h1, h2, h3, h4]; rfl), g0⟩
  go_enter Try.func62, Try.ntmps62
  go_wp2_with (go_at_call 63; refine (c_in _ _ _ _).mono ?_; rintro e w' ⟨rfl, rfl⟩)
  go_ret
  exact ⟨ret_bool (by rw [HR.out]; simp only [h1, h2, h3, h4]; rfl), g0⟩
set_option maxHeartbeats 2000000 in
theorem s_FlowValid (f : F5) (w : World) : Calls Try.prog 67 #[fvv f] w fun e w' => e = .returned (.bool (fv f)) ∧ Below w.heap.size w w' := by
  have HR : Hid (fv f = (inB f.1 0 255 && inB f.2.2.1 0 255 && inB f.2.1 0 999 && inB f.2.2.2.1 0 999 && inB f.2.2.2.2 1 2)) := Lib.hid rfl
  obtain ⟨a, b, c, d, k⟩ := f
  unfold fvv
  have g0 : Below w.heap.size w (w.alloc (.cells #[.int .i64 a, .int .i64 b, .int .i64 c, .int .i64 d, .int .i64 k] 37)) := (Below.refl _ _).alloc (Nat.le_refl _) _
  cases h1 : inB a 0 255
  · go_enter Try.func67, Try.ntmps67
    go_wp2_with (go_at_call 87; refine (c_l1In _ _ _ _).mono ?_; rintro e w' ⟨rfl, rfl⟩)
    go_ret
    exact ⟨ret_bool (by rw [HR.out]; simp only [h1]; rfl), g0⟩
  cases h2 : inB c 0 255
  · go_enter Try.func67, Try.ntmps67
    go_wp2_with (go_at_call 87; refine (c_l1In _ _ _ _).mono ?_; rintro e w' ⟨rfl, rfl⟩)
    go_ret
    exact ⟨ret_bool (by rw [HR.out]; simp only [h1, h2]; rfl), g0⟩
  cases h3 : inB b 0 999
  · go_enter Try.func67, Try.ntmps67
    go_wp2_with (go_at_call 87; refine (c_l1In _ _ _ _).mono ?_; rintro e w' ⟨rfl, rfl⟩)
    go_ret
    exact ⟨ret_bool (by rw [HR.out]; simp only [h1, h2, h3]; rfl), g0⟩
  cases h4 : inB d 0 999
  · go_enter Try.func67, Try.ntmps67
    go_wp2_with (go_at_call 87; refine (c_l1In _ _ _ _).mono ?_; rintro e w' ⟨rfl, rfl⟩)
    go_ret
    exact ⟨ret_bool (by rw [HR.out]; simp only [h1, h2, h3, h4]; rfl), g0⟩
  go_enter Try.func67, Try.ntmps67
  go_wp2_with (go_at_call 87; refine (c_l1In _ _ _ _).mono ?_; rintro e w' ⟨rfl, rfl⟩)
  go_ret
  exact ⟨ret_bool (by rw [HR.out]; simp only [h1, h2, h3, h4]; rfl), g0⟩
/-! ### the map of flows that were seen -/
theorem laidM : laidOutB Try.prog = true := by kernel_rfl
theorem flowRow : (37 : TypeId) < Try.prog.types.size := of_decide_eq_true (by kernel_rfl)
theorem m3 : 2 + 1 ≤ 10000 := by omega
theorem flowKt : Try.prog.keyTypeAt 2 37 = true := by kernel_rfl
theorem flowLaw : Go.WideMaps.KeyLaw Try.prog 37 := deep_law_laid (m := 2) (k := 37) laidM m3 flowRow flowKt (by kernel_rfl)
theorem flowKeyed : Go.Maps.Keyed Try.prog 37 := Go.Maps.Keyed.of_law flowLaw
end Go.Proofs.Ytdkdfehlmphikaa
/- The draw of a flow: whatever is drawn is a flow; besides the reader nothing that was there has turned. No condition. -/
namespace Go.Proofs.Ytdkdfehlmphikaa
open Go.RowKit
variable {D : Nat}
theorem run_bF (o : Oper) (ρ : Operand → Value) (w : World) (x0 x1 x2 x3 x4 : Operand) (m0 m1 m2 m3 m4 : Int) (ho : o.op = .build 37 #[(0, x0), (1, x1), (2, x2), (3, x3), (4, x4)]) (h0 : ρ x0 = .int .i64 m0) (h1 : ρ x1 = .int .i64 m1) (h2 : ρ x2 = .int .i64 m2) (h3 : ρ x3 = .int .i64 m3) (h4 : ρ x4 = .int .i64 m4) :
    (execOp ρ o).run Try.prog w = .ok (.value (.agg #[.int .i64 m0, .int .i64 m1, .int .i64 m2, .int .i64 m3, .int .i64 m4])) w := by
  simp [execOp, ho, h0, h1, h2, h3, h4, go_sem]
theorem run_alF (o : Oper) (ρ : Operand → Value) (w : World) (ho : o.op = .alloc 37) :
    (execOp ρ o).run Try.prog w = .ok (.value (.pointer (some ⟨w.heap.size, 0, none⟩))) (w.alloc (.cells #[.int .i64 0, .int .i64 0, .int .i64 0, .int .i64 0, .int .i64 0] 37)) := by
  simp [execOp, ho, go_sem]
/-- A flow is drawn. -/
def RetDF (D : Nat) (w : World) (g p m : Nat) (e : Ending) (w' : World) : Prop :=
  ∃ x0 x1 x2 x3 x4 : Int, e = .returned (.agg #[.int .i64 x0, .int .i64 x1, .int .i64 x2, .int .i64 x3, .int .i64 x4]) ∧ (∃ p', p' ≤ p + m ∧ Rd D w' g p') ∧ w.grownBy w' (some g)
/-- What is said by hand of the flow that is made. -/
def FX (B g : Nat) : List (Tmp × (Value → World → Prop)) :=
  [(32, fun v _ => ∃ x0 x1 x2 x3 x4 : Int, v = .agg #[.int .i64 x0, .int .i64 x1, .int .i64 x2, .int .i64 x3, .int .i64 x4]),
   (5, fun v w => ∃ b, v = .pointer (some ⟨b, 0, none⟩) ∧ B ≤ b ∧ b ≠ g ∧ w.heap[b]? = some (.cells #[.int .i64 0, .int .i64 0, .int .i64 0, .int .i64 0, .int .i64 0] 37 (0, 0)))]
theorem FX.stable {B g : Nat} : ∀ q ∈ FX B g, ∀ v w w', q.2 v w → w.grownBy w' (some g) → q.2 v w' := by
  intro q hq v w w' h hg
  simp only [FX, List.mem_cons, List.not_mem_nil, or_false] at hq
  rcases hq with rfl | rfl
  · exact h
  · obtain ⟨b, h1, h2, h3, h4⟩ := h
    exact ⟨b, h1, h2, h3, (hg.block b (lt_of_heap h4) (fun e => h3 (by simpa using e))).trans h4⟩
set_option maxRecDepth 100000 in
set_option maxHeartbeats 4000000 in
theorem s_l20Flow (g p : Nat) (n : Int) (w : World) (h : Rd D w g p) (hp : p ≤ 50000) (n1 : 0 ≤ n) (n2 : n ≤ 1000) :
    Calls Try.prog 80 #[.pointer (some ⟨g, 0, none⟩), .int .i64 n] w (RetDF D w g p 40) := by
  have hglt := h.lt
  have hD0 : D ≤ w.heap.size := by have := h.1; omega
  have HR := Lib.hid h
  clear h
  go_enter Try.func80, Try.ntmps80
  go_wp2_with fail
  obtain ⟨W, hW, gW, sW, bW⟩ := head1 w 37 [.int .i64 0, .int .i64 0, .int .i64 0, .int .i64 0, .int .i64 0]
  rw [← hW]
  have HRW := Lib.hid (HR.out.keep (below_grown gW))
  have HG0 : Hid (w.grownBy W (some g)) := Lib.hid (by rw [hW]; exact grownBy_alloc w (some g) _)
  have HB0 := Lib.hid bW
  clear hW gW bW HR
  refine region_checked_x (D := D) _ 0 false 28 59 g p [(0, .rd)] [(0, .rd), (6, .rd), (7, .int 0 3), (8, .rd), (9, .int 0 255), (10, .sl [(80, 80), (443, 443), (0, 255)]), (11, .rd), (12, .int 0 2), (13, .pt 0 443), (14, .int 0 443), (15, .rd), (16, .int 0 3), (17, .sl [(0, 3), (255, 255)]), (18, .rd), (19, .int 0 5), (20, .int 0 1), (21, .pt 0 255), (22, .int 0 255), (23, .sl [(80, 80), (999, 999)]), (24, .rd), (25, .int 0 5), (26, .int 0 1), (27, .pt 80 999), (28, .int 80 999), (29, .rd), (30, .int 0 1), (31, .int 1 2), (32, .any), (5, .any)] [6, 7, 8, 9, 10, 11, 12, 13, 14, 15, 16, 17, 18, 19, 20, 21, 22, 23, 24, 25, 26, 27, 28, 29, 30, 31, 32, 5] [] (FX W.heap.size g) [32, 5] [26, 27] rfl (by kernel_rfl) rfl FX.stable (fun h => by cases h) ?_ HRW.out (by omega) ?_ ?_
  · intro q hq
    simp only [List.mem_cons, List.not_mem_nil, or_false] at hq
    subst hq
    rfl
  · intro i hi o d hin ho hd k a V hk hdef hfrm hdep hgr hV
    simp only [List.mem_cons, List.not_mem_nil, or_false] at hi
    rcases hi with rfl | rfl
    · injection ho with ho
      subst ho
      injection hd with hd
      subst hd
      obtain ⟨x0, e0, _, _⟩ := (hdep 7 (by kernel_rfl)).1
      obtain ⟨x1, e1, _, _⟩ := (hdep 14 (by kernel_rfl)).1
      obtain ⟨x2, e2, _, _⟩ := (hdep 22 (by kernel_rfl)).1
      obtain ⟨x3, e3, _, _⟩ := (hdep 28 (by kernel_rfl)).1
      obtain ⟨x4, e4, _, _⟩ := (hdep 31 (by kernel_rfl)).1
      refine wp_val2 rfl (run_bF _ _ _ _ _ _ _ _ _ _ _ _ _ rfl e0 e1 e2 e3 e4) ⟨_, rfl, ⟨trivial, (fun s hs => by cases hs), ?_⟩, grownBy_rfl _ _, let ⟨p', q1, q2⟩ := hV; ⟨p', by omega, q2⟩⟩
      intro q hq e
      simp only [FX, List.mem_cons, List.not_mem_nil, or_false] at hq
      rcases hq with rfl | rfl
      · exact ⟨x0, x1, x2, x3, x4, rfl⟩
      · cases e
    · injection ho with ho
      subst ho
      injection hd with hd
      subst hd
      have hgl : g < V.heap.size := let ⟨_, _, h⟩ := hV; h.lt
      refine wp_val2 rfl (run_alF _ _ _ rfl) ⟨_, rfl, ⟨trivial, (fun s hs => by cases hs), ?_⟩, grownBy_alloc _ _ _, let ⟨p', q1, q2⟩ := hV; ⟨p', by omega, q2.keep (grownBy_alloc _ _ _)⟩⟩
      intro q hq e
      simp only [FX, List.mem_cons, List.not_mem_nil, or_false] at hq
      rcases hq with rfl | rfl
      · cases e
      · exact ⟨V.heap.size, rfl, hgr.size, by omega, heap_alloc_new V _⟩
  intro f w1 hf hgr ⟨p1, hp1, hr1⟩
  obtain ⟨x0, x1, x2, x3, x4, e32⟩ := (hf 32 (by decide)).2.2 _ List.mem_cons_self rfl
  obtain ⟨b, e5, hBb, hbg, hh⟩ := (hf 5 (by decide)).2.2 _ (List.mem_cons_of_mem _ List.mem_cons_self) rfl
  have HH : Hid (Box w1 b 37 [.int .i64 0, .int .i64 0, .int .i64 0, .int .i64 0, .int .i64 0]) := Lib.hid hh
  have HG1 := Lib.hid (grownBy_tr HG0.out hgr)
  have HR1 := Lib.hid hr1
  have hgB : w.heap.size ≠ g := by omega
  have HB1 := Lib.hid (HB0.out.by hgr hgB)
  simp only [List.drop_succ_cons, List.drop_zero, putL, Act.put, List.setIfInBounds_toArray, List.set_cons_succ, List.set_cons_zero, e32, e5]
  clear hf hgr hr1 e32 e5 hh HG0 HB0 HRW
  obtain ⟨c0, c1, c2, c3, c4, cf⟩ := HH.out.five
  have hne0 : w.heap.size ≠ b := by omega
  have hDb : D ≤ b := by omega
  go_wp2_with fail
  obtain ⟨W2, hW2⟩ : ∃ W2, W2 = (((((w1.setCell ⟨b, 0, none⟩ (.int .i64 x0)).setCell ⟨b, 1, none⟩ (.int .i64 x1)).setCell ⟨b, 2, none⟩ (.int .i64 x2)).setCell ⟨b, 3, none⟩ (.int .i64 x3)).setCell ⟨b, 4, none⟩ (.int .i64 x4)) := ⟨_, rfl⟩
  have HT2 : Hid (Box W2 b 37 [.int .i64 x0, .int .i64 x1, .int .i64 x2, .int .i64 x3, .int .i64 x4]) := Lib.hid (by rw [hW2]; exact ((((HH.out.set 0 _).set 1 _).set 2 _).set 3 _).set 4 _)
  have HB2 : Hid (Box W2 w.heap.size 37 [.int .i64 0, .int .i64 0, .int .i64 0, .int .i64 0, .int .i64 0]) := Lib.hid (by rw [hW2]; exact ((((HB1.out.other hne0 _).other hne0 _).other hne0 _).other hne0 _).other hne0 _)
  have HG2 : Hid (w.grownBy W2 (some g)) := Lib.hid (by rw [hW2]; exact gb_set (gb_set (gb_set (gb_set (gb_set HG1.out (b := b) (by omega) 0 _) (b := b) (by omega) 1 _) (b := b) (by omega) 2 _) (b := b) (by omega) 3 _) (b := b) (by omega) 4 _)
  have HR2 : Hid (Rd D W2 g p1) := Lib.hid (by rw [hW2]; exact ((((HR1.out.other hDb hbg _ _).other hDb hbg _ _).other hDb hbg _ _).other hDb hbg _ _).other hDb hbg _ _)
  have HW2 := Lib.hid hW2
  clear hW2 HH HG1 HR1 HB1 c0 c1 c2 c3 c4 cf
  rw [← HW2.out]
  refine (c_odd g p1 n _ HR2.out (by omega) (by omega) (by omega)).mono ?_
  rintro e w3 ⟨od, rfl, ⟨p3, hp3, hr3⟩, hg3⟩
  have HG3 := Lib.hid (grownBy_tr HG2.out hg3)
  have HB3 := Lib.hid (HB2.out.by hg3 hgB)
  have HT3 := Lib.hid (HT2.out.by hg3 hbg)
  have HR3 := Lib.hid hr3
  clear hg3 hr3 HG2 HB2 HT2 HR2 HW2
  have hb3 := HT3.out.lt
  have hw3 := HB3.out.lt
  cases od
  · skip
    obtain ⟨t0, t1, t2, t3, t4, tf⟩ := HT3.out.five
    obtain ⟨r0, r1, r2, r3, r4, rf⟩ := HB3.out.five
    go_wp2
    refine bodyPost_ret (v := .agg #[.int .i64 x0, .int .i64 x1, .int .i64 x2, .int .i64 x3, .int .i64 x4]) (by simp [results, Try.results80, go_sem, r0, r1, r2, r3, r4]) rfl ?_
    exact ⟨_, _, _, _, _, rfl, ⟨p3, by omega, ((((HR3.out.other hD0 hgB _ _).other hD0 hgB _ _).other hD0 hgB _ _).other hD0 hgB _ _).other hD0 hgB _ _⟩, gb_set (gb_set (gb_set (gb_set (gb_set HG3.out (Nat.le_refl _) _ _) (Nat.le_refl _) _ _) (Nat.le_refl _) _ _) (Nat.le_refl _) _ _) (Nat.le_refl _) _ _⟩
  · go_wp2_with fail
    refine (c_pick g p3 4 _ HR3.out (by omega) (by omega) (by omega)).mono ?_
    rintro e w4 ⟨x, rfl, y1, y2, _, hr4, hg4⟩
    have y3 := y2 (by omega)
    have HR4 := Lib.hid hr4
    have HG4 := Lib.hid (grownBy_tr HG3.out hg4)
    have HB4 := Lib.hid (HB3.out.by hg4 hgB)
    have HT4 := Lib.hid (HT3.out.by hg4 hbg)
    clear hg4 hr4 y2 HB3 HT3 HG3 HR3
    have hb4 := HT4.out.lt
    have hw4 := HB4.out.lt
    have hg4' := HR4.out.lt
    have hx : x = 0 ∨ x = 1 ∨ x = 2 ∨ x = 3 := by omega
    clear y1 y3
    rcases hx with rfl | rfl | rfl | rfl
    · go_wp2_with fail
      refine (c_pick g (p3 + 1) 2 _ (HR4.out.keep (grownBy_alloc _ _ _)) (by omega) (by omega) (by omega)).mono ?_
      rintro e w5 ⟨t, rfl, y1, y2, _, hr5, hg5⟩
      have y3 := y2 (by omega)
      have HR5 := Lib.hid hr5
      have HG5 := Lib.hid (grownBy_tr (gb_alloc HG4.out _) hg5)
      have HB5 := Lib.hid ((HB4.out.alloc (.cells #[.int .i64 (-1), .int .i64 256] 3)).by hg5 hgB)
      have HT5 := Lib.hid ((HT4.out.alloc (.cells #[.int .i64 (-1), .int .i64 256] 3)).by hg5 hbg)
      have HL5 := Lib.hid ((Box.new w4 3 [.int .i64 (-1), .int .i64 256]).by hg5 (by omega))
      clear hg5 hr5 y2 HB4 HT4 HG4 HR4
      have l0 := HL5.out.cell 0
      have l1 := HL5.out.cell 1
      simp only [List.getElem?_cons_zero, List.getElem?_cons_succ] at l0 l1
      have hb5 := HT5.out.lt
      have hw5 := HB5.out.lt
      have hnl : ¬ w4.heap.size = b := by omega
      have hx : t = 0 ∨ t = 1 := by omega
      clear y1 y3
      rcases hx with rfl | rfl
      · skip
        obtain ⟨t0, t1, t2, t3, t4, tf⟩ := HT5.out.five
        go_upto_region 11 with fail
        obtain ⟨W8, hW8⟩ : ∃ W8, W8 = w5.setCell ⟨b, 0, none⟩ (.int .i64 (-1)) := ⟨_, rfl⟩
        rw [← hW8]
        have HT8 := Lib.hid (HT5.out.set 0 (.int .i64 (-1)))
        have HB8 := Lib.hid (HB5.out.other (p := ⟨b, 0, none⟩) hne0 (.int .i64 (-1)))
        have HG8 := Lib.hid (gb_set HG5.out (b := b) (by omega) 0 (.int .i64 (-1)))
        have HR8 := Lib.hid (HR5.out.other hDb hbg 0 (.int .i64 (-1)))
        simp only [List.set_cons_zero] at HT8
        rw [← hW8] at HT8 HB8 HG8 HR8
        clear hW8 t0 t1 t2 t3 t4 tf
        obtain ⟨t0, t1, t2, t3, t4, tf⟩ := HT8.out.five
        obtain ⟨r0, r1, r2, r3, r4, rf⟩ := HB8.out.five
        go_wp2
        refine bodyPost_ret (v := .agg #[.int .i64 (-1), .int .i64 x1, .int .i64 x2, .int .i64 x3, .int .i64 x4]) (by simp [results, Try.results80, go_sem, r0, r1, r2, r3, r4]) rfl ?_
        exact ⟨_, _, _, _, _, rfl, ⟨p3 + 2, by omega, ((((HR8.out.other hD0 hgB _ _).other hD0 hgB _ _).other hD0 hgB _ _).other hD0 hgB _ _).other hD0 hgB _ _⟩, gb_set (gb_set (gb_set (gb_set (gb_set HG8.out (Nat.le_refl _) _ _) (Nat.le_refl _) _ _) (Nat.le_refl _) _ _) (Nat.le_refl _) _ _) (Nat.le_refl _) _ _⟩
      · skip
        obtain ⟨t0, t1, t2, t3, t4, tf⟩ := HT5.out.five
        go_upto_region 11 with fail
        obtain ⟨W8, hW8⟩ : ∃ W8, W8 = w5.setCell ⟨b, 0, none⟩ (.int .i64 256) := ⟨_, rfl⟩
        rw [← hW8]
        have HT8 := Lib.hid (HT5.out.set 0 (.int .i64 256))
        have HB8 := Lib.hid (HB5.out.other (p := ⟨b, 0, none⟩) hne0 (.int .i64 256))
        have HG8 := Lib.hid (gb_set HG5.out (b := b) (by omega) 0 (.int .i64 256))
        have HR8 := Lib.hid (HR5.out.other hDb hbg 0 (.int .i64 256))
        simp only [List.set_cons_zero] at HT8
        rw [← hW8] at HT8 HB8 HG8 HR8
        clear hW8 t0 t1 t2 t3 t4 tf
        obtain ⟨t0, t1, t2, t3, t4, tf⟩ := HT8.out.five
        obtain ⟨r0, r1, r2, r3, r4, rf⟩ := HB8.out.five
        go_wp2
        refine bodyPost_ret (v := .agg #[.int .i64 256, .int .i64 x1, .int .i64 x2, .int .i64 x3, .int .i64 x4]) (by simp [results, Try.results80, go_sem, r0, r1, r2, r3, r4]) rfl ?_
        exact ⟨_, _, _, _, _, rfl, ⟨p3 + 2, by omega, ((((HR8.out.other hD0 hgB _ _).other hD0 hgB _ _).other hD0 hgB _ _).other hD0 hgB _ _).other hD0 hgB _ _⟩, gb_set (gb_set (gb_set (gb_set (gb_set HG8.out (Nat.le_refl _) _ _) (Nat.le_refl _) _ _) (Nat.le_refl _) _ _) (Nat.le_refl _) _ _) (Nat.le_refl _) _ _⟩
    · skip
      obtain ⟨t0, t1, t2, t3, t4, tf⟩ := HT4.out.five
      go_upto_region 11 with fail
      obtain ⟨W8, hW8⟩ : ∃ W8, W8 = w4.setCell ⟨b, 3, none⟩ (.int .i64 1000) := ⟨_, rfl⟩
      rw [← hW8]
      have HT8 := Lib.hid (HT4.out.set 3 (.int .i64 1000))
      have HB8 := Lib.hid (HB4.out.other (p := ⟨b, 3, none⟩) hne0 (.int .i64 1000))
      have HG8 := Lib.hid (gb_set HG4.out (b := b) (by omega) 3 (.int .i64 1000))
      have HR8 := Lib.hid (HR4.out.other hDb hbg 3 (.int .i64 1000))
      simp only [List.set_cons_zero, List.set_cons_succ] at HT8
      rw [← hW8] at HT8 HB8 HG8 HR8
      clear hW8 t0 t1 t2 t3 t4 tf
      obtain ⟨t0, t1, t2, t3, t4, tf⟩ := HT8.out.five
      obtain ⟨r0, r1, r2, r3, r4, rf⟩ := HB8.out.five
      go_wp2
      refine bodyPost_ret (v := .agg #[.int .i64 x0, .int .i64 x1, .int .i64 x2, .int .i64 1000, .int .i64 x4]) (by simp [results, Try.results80, go_sem, r0, r1, r2, r3, r4]) rfl ?_
      exact ⟨_, _, _, _, _, rfl, ⟨p3 + 1, by omega, ((((HR8.out.other hD0 hgB _ _).other hD0 hgB _ _).other hD0 hgB _ _).other hD0 hgB _ _).other hD0 hgB _ _⟩, gb_set (gb_set (gb_set (gb_set (gb_set HG8.out (Nat.le_refl _) _ _) (Nat.le_refl _) _ _) (Nat.le_refl _) _ _) (Nat.le_refl _) _ _) (Nat.le_refl _) _ _⟩
    · go_wp2_with fail
      refine (c_pick g (p3 + 1) 2 _ (HR4.out.keep (grownBy_alloc _ _ _)) (by omega) (by omega) (by omega)).mono ?_
      rintro e w5 ⟨t, rfl, y1, y2, _, hr5, hg5⟩
      have y3 := y2 (by omega)
      have HR5 := Lib.hid hr5
      have HG5 := Lib.hid (grownBy_tr (gb_alloc HG4.out _) hg5)
      have HB5 := Lib.hid ((HB4.out.alloc (.cells #[.int .i64 0, .int .i64 3] 3)).by hg5 hgB)
      have HT5 := Lib.hid ((HT4.out.alloc (.cells #[.int .i64 0, .int .i64 3] 3)).by hg5 hbg)
      have HL5 := Lib.hid ((Box.new w4 3 [.int .i64 0, .int .i64 3]).by hg5 (by omega))
      clear hg5 hr5 y2 HB4 HT4 HG4 HR4
      have l0 := HL5.out.cell 0
      have l1 := HL5.out.cell 1
      simp only [List.getElem?_cons_zero, List.getElem?_cons_succ] at l0 l1
      have hb5 := HT5.out.lt
      have hw5 := HB5.out.lt
      have hnl : ¬ w4.heap.size = b := by omega
      have hx : t = 0 ∨ t = 1 := by omega
      clear y1 y3
      rcases hx with rfl | rfl
      · skip
        obtain ⟨t0, t1, t2, t3, t4, tf⟩ := HT5.out.five
        go_upto_region 11 with fail
        obtain ⟨W8, hW8⟩ : ∃ W8, W8 = w5.setCell ⟨b, 4, none⟩ (.int .i64 0) := ⟨_, rfl⟩
        rw [← hW8]
        have HT8 := Lib.hid (HT5.out.set 4 (.int .i64 0))
        have HB8 := Lib.hid (HB5.out.other (p := ⟨b, 4, none⟩) hne0 (.int .i64 0))
        have HG8 := Lib.hid (gb_set HG5.out (b := b) (by omega) 4 (.int .i64 0))
        have HR8 := Lib.hid (HR5.out.other hDb hbg 4 (.int .i64 0))
        simp only [List.set_cons_zero, List.set_cons_succ] at HT8
        rw [← hW8] at HT8 HB8 HG8 HR8
        clear hW8 t0 t1 t2 t3 t4 tf
        obtain ⟨t0, t1, t2, t3, t4, tf⟩ := HT8.out.five
        obtain ⟨r0, r1, r2, r3, r4, rf⟩ := HB8.out.five
        go_wp2
        refine bodyPost_ret (v := .agg #[.int .i64 x0, .int .i64 x1, .int .i64 x2, .int .i64 x3, .int .i64 0]) (by simp [results, Try.results80, go_sem, r0, r1, r2, r3, r4]) rfl ?_
        exact ⟨_, _, _, _, _, rfl, ⟨p3 + 2, by omega, ((((HR8.out.other hD0 hgB _ _).other hD0 hgB _ _).other hD0 hgB _ _).other hD0 hgB _ _).other hD0 hgB _ _⟩, gb_set (gb_set (gb_set (gb_set (gb_set HG8.out (Nat.le_refl _) _ _) (Nat.le_refl _) _ _) (Nat.le_refl _) _ _) (Nat.le_refl _) _ _) (Nat.le_refl _) _ _⟩
      · skip
        obtain ⟨t0, t1, t2, t3, t4, tf⟩ := HT5.out.five
        go_upto_region 11 with fail
        obtain ⟨W8, hW8⟩ : ∃ W8, W8 = w5.setCell ⟨b, 4, none⟩ (.int .i64 3) := ⟨_, rfl⟩
        rw [← hW8]
        have HT8 := Lib.hid (HT5.out.set 4 (.int .i64 3))
        have HB8 := Lib.hid (HB5.out.other (p := ⟨b, 4, none⟩) hne0 (.int .i64 3))
        have HG8 := Lib.hid (gb_set HG5.out (b := b) (by omega) 4 (.int .i64 3))
        have HR8 := Lib.hid (HR5.out.other hDb hbg 4 (.int .i64 3))
        simp only [List.set_cons_zero, List.set_cons_succ] at HT8
        rw [← hW8] at HT8 HB8 HG8 HR8
        clear hW8 t0 t1 t2 t3 t4 tf
        obtain ⟨t0, t1, t2, t3, t4, tf⟩ := HT8.out.five
        obtain ⟨r0, r1, r2, r3, r4, rf⟩ := HB8.out.five
        go_wp2
        refine bodyPost_ret (v := .agg #[.int .i64 x0, .int .i64 x1, .int .i64 x2, .int .i64 x3, .int .i64 3]) (by simp [results, Try.results80, go_sem, r0, r1, r2, r3, r4]) rfl ?_
        exact ⟨_, _, _, _, _, rfl, ⟨p3 + 2, by omega, ((((HR8.out.other hD0 hgB _ _).other hD0 hgB _ _).other hD0 hgB _ _).other hD0 hgB _ _).other hD0 hgB _ _⟩, gb_set (gb_set (gb_set (gb_set (gb_set HG8.out (Nat.le_refl _) _ _) (Nat.le_refl _) _ _) (Nat.le_refl _) _ _) (Nat.le_refl _) _ _) (Nat.le_refl _) _ _⟩
    · skip
      obtain ⟨t0, t1, t2, t3, t4, tf⟩ := HT4.out.five
      go_upto_region 11 with fail
      obtain ⟨W8, hW8⟩ : ∃ W8, W8 = w4.setCell ⟨b, 2, none⟩ (.int .i64 (-1)) := ⟨_, rfl⟩
      rw [← hW8]
      have HT8 := Lib.hid (HT4.out.set 2 (.int .i64 (-1)))
      have HB8 := Lib.hid (HB4.out.other (p := ⟨b, 2, none⟩) hne0 (.int .i64 (-1)))
      have HG8 := Lib.hid (gb_set HG4.out (b := b) (by omega) 2 (.int .i64 (-1)))
      have HR8 := Lib.hid (HR4.out.other hDb hbg 2 (.int .i64 (-1)))
      simp only [List.set_cons_zero, List.set_cons_succ] at HT8
      rw [← hW8] at HT8 HB8 HG8 HR8
      clear hW8 t0 t1 t2 t3 t4 tf
      obtain ⟨t0, t1, t2, t3, t4, tf⟩ := HT8.out.five
      obtain ⟨r0, r1, r2, r3, r4, rf⟩ := HB8.out.five
      go_wp2
      refine bodyPost_ret (v := .agg #[.int .i64 x0, .int .i64 x1, .int .i64 (-1), .int .i64 x3, .int .i64 x4]) (by simp [results, Try.results80, go_sem, r0, r1, r2, r3, r4]) rfl ?_
      exact ⟨_, _, _, _, _, rfl, ⟨p3 + 1, by omega, ((((HR8.out.other hD0 hgB _ _).other hD0 hgB _ _).other hD0 hgB _ _).other hD0 hgB _ _).other hD0 hgB _ _⟩, gb_set (gb_set (gb_set (gb_set (gb_set HG8.out (Nat.le_refl _) _ _) (Nat.le_refl _) _ _) (Nat.le_refl _) _ _) (Nat.le_refl _) _ _) (Nat.le_refl _) _ _⟩
end Go.Proofs.Ytdkdfehlmphikaa
/- The verifier's toFlow, eqFlow. No condition. -/
namespace Go.Proofs.Ytdkdfehlmphikaa
open Go.RowKit
theorem c_toFlow (a b c d k : Int) (w : World) : Calls Try.prog 26 #[.agg #[.int .i64 a, .int .i64 b, .int .i64 c, .int .i64 d, .int .i64 k]] w fun e w' => e = .returned (.agg #[.int .i64 a, .int .i64 b, .int .i64 c, .int .i64 d, .int .i64 k]) ∧ Below w.heap.size w w' := by
  go_enter Try.func26, Try.ntmps26
  go_wp2
  go_returns
  exact ⟨rfl, by go_grown⟩
theorem c_eqFlow (a b c d k : Int) (w : World) : Calls Try.prog 100 #[.agg #[.int .i64 a, .int .i64 b, .int .i64 c, .int .i64 d, .int .i64 k], .agg #[.int .i64 a, .int .i64 b, .int .i64 c, .int .i64 d, .int .i64 k]] w fun e w' => e = .returned (.bool true) ∧ Below w.heap.size w w' := by
  go_enter Try.func100, Try.ntmps100
  go_wp2
  go_ret
  exact ⟨rfl, by go_grown⟩
end Go.Proofs.Ytdkdfehlmphikaa
/- Contracts of the verifier's small functions over lists of Entry, read as flat lists of ints: to, eq. No condition but the bounds that each states. (Printed by wip/mkz.py.) -/
namespace Go.Proofs.Ytdkdfehlmphikaa
open Go.RowKit
set_option maxHeartbeats 4000000 in
theorem c_toEntry (x0 x1 x2 x3 x4 x5 x6 : Int) (w : World) : Calls Try.prog 95 #[.agg #[.int .i64 x0, .int .i64 x1, .int .i64 x2, .int .i64 x3, .int .i64 x4, .int .i64 x5, .int .i64 x6]] w fun e w' => e = .returned (.agg #[.int .i64 x0, .int .i64 x1, .int .i64 x2, .int .i64 x3, .int .i64 x4, .int .i64 x5, .int .i64 x6]) ∧ Below w.heap.size w w' := by
  obtain ⟨W, hW, gW, sW, bx, by1, bz⟩ := head3 w 121 69 69 [.int .i64 x0, .int .i64 x1, .int .i64 x2, .int .i64 x3, .int .i64 x4, .int .i64 x5, .int .i64 x6] [.int .i64 0, .int .i64 0, .int .i64 0, .int .i64 0, .int .i64 0, .int .i64 0, .int .i64 0] [.int .i64 0, .int .i64 0, .int .i64 0, .int .i64 0, .int .i64 0, .int .i64 0, .int .i64 0]
  have HW := Lib.hid hW
  have HG := Lib.hid gW
  have HS := Lib.hid sW
  have HX := Lib.hid bx
  have HY := Lib.hid by1
  have HZ := Lib.hid bz
  obtain ⟨cx0, cx1, cx2, cx3, cx4, cx5, cx6, fx⟩ := bx.seven
  clear hW gW sW by1 bz bx
  go_enter Try.func95, Try.ntmps95
  go_wp2_with fail
  rw [← HW.out]
  (with_reducible refine (c_toFlow x0 x1 x2 x3 x4 _).mono ?_)
  rintro e w6 ⟨rfl, hb6⟩
  have HB := Lib.hid hb6
  have hz6 := hb6.size
  clear hb6 fx cx0 cx1 cx2 cx3 cx4 cx5 cx6
  have hs6 := HS.out
  have HX6 := Lib.hid (HX.out.keep HB.out)
  have HY6 := Lib.hid (HY.out.keep HB.out)
  have HZ6 := Lib.hid (HZ.out.keep HB.out)
  obtain ⟨cx0, cx1, cx2, cx3, cx4, cx5, cx6, fx⟩ := HX6.out.seven
  obtain ⟨cy0, cy1, cy2, cy3, cy4, cy5, cy6, fy⟩ := HY6.out.seven
  obtain ⟨cz0, cz1, cz2, cz3, cz4, cz5, cz6, fz⟩ := HZ6.out.seven
  go_upto_region 5 with fail
  obtain ⟨w7, hw7⟩ : ∃ W7, W7 = (((((((w6.setCell ⟨w.heap.size + 2, 0, none⟩ (.int .i64 x0)).setCell ⟨w.heap.size + 2, 1, none⟩ (.int .i64 x1)).setCell ⟨w.heap.size + 2, 2, none⟩ (.int .i64 x2)).setCell ⟨w.heap.size + 2, 3, none⟩ (.int .i64 x3)).setCell ⟨w.heap.size + 2, 4, none⟩ (.int .i64 x4)).setCell ⟨w.heap.size + 2, 5, none⟩ (.int .i64 x5)).setCell ⟨w.heap.size + 2, 6, none⟩ (.int .i64 x6)) := ⟨_, rfl⟩
  have bx7 : Box w7 w.heap.size 121 [.int .i64 x0, .int .i64 x1, .int .i64 x2, .int .i64 x3, .int .i64 x4, .int .i64 x5, .int .i64 x6] := by rw [hw7]; exact (((((((HX6.out.other (by simp) _).other (by simp) _).other (by simp) _).other (by simp) _).other (by simp) _).other (by simp) _).other (by simp) _)
  have by7 : Box w7 (w.heap.size + 1) 69 [.int .i64 0, .int .i64 0, .int .i64 0, .int .i64 0, .int .i64 0, .int .i64 0, .int .i64 0] := by rw [hw7]; exact (((((((HY6.out.other (by simp) _).other (by simp) _).other (by simp) _).other (by simp) _).other (by simp) _).other (by simp) _).other (by simp) _)
  have bz7 : Box w7 (w.heap.size + 2) 69 [.int .i64 x0, .int .i64 x1, .int .i64 x2, .int .i64 x3, .int .i64 x4, .int .i64 x5, .int .i64 x6] := by rw [hw7]; exact (((((((HZ6.out.set 0 _).set 1 _).set 2 _).set 3 _).set 4 _).set 5 _).set 6 _)
  have bl7 : Below w.heap.size w w7 := by
    have h3 := Below.step HG.out HB.out HG.out.size
    rw [hw7]; go_grown
  have HW7 := Lib.hid hw7
  have HB7 := Lib.hid bl7
  have hz7 := bz7.lt
  clear fx fy fz cx0 cx1 cx2 cx3 cx4 cx5 cx6 cy0 cy1 cy2 cy3 cy4 cy5 cy6 cz0 cz1 cz2 cz3 cz4 cz5 cz6 hw7 bl7
  obtain ⟨cx0, cx1, cx2, cx3, cx4, cx5, cx6, fx⟩ := bx7.seven
  obtain ⟨cy0, cy1, cy2, cy3, cy4, cy5, cy6, fy⟩ := by7.seven
  obtain ⟨cz0, cz1, cz2, cz3, cz4, cz5, cz6, fz⟩ := bz7.seven
  clear bx7 by7 bz7
  rw [← HW7.out]
  go_wp2
  refine bodyPost_ret (v := .agg #[.int .i64 x0, .int .i64 x1, .int .i64 x2, .int .i64 x3, .int .i64 x4, .int .i64 x5, .int .i64 x6]) (by simp [results, Try.results95, go_sem, cy0, cy1, cy2, cy3, cy4, cy5, cy6]) rfl ?_
  have h1 := HB7.out
  exact ⟨rfl, by go_grown⟩
set_option maxHeartbeats 1000000 in
theorem c_eqEntry (x0 x1 x2 x3 x4 x5 x6 : Int) (w : World) : Calls Try.prog 99 #[.agg #[.int .i64 x0, .int .i64 x1, .int .i64 x2, .int .i64 x3, .int .i64 x4, .int .i64 x5, .int .i64 x6], .agg #[.int .i64 x0, .int .i64 x1, .int .i64 x2, .int .i64 x3, .int .i64 x4, .int .i64 x5, .int .i64 x6]] w fun e w' => e = .returned (.bool true) ∧ Below w.heap.size w w' := by
  obtain ⟨W, hW, gW, sW, bx, by1⟩ := headB w 69 69 [.int .i64 x0, .int .i64 x1, .int .i64 x2, .int .i64 x3, .int .i64 x4, .int .i64 x5, .int .i64 x6] [.int .i64 x0, .int .i64 x1, .int .i64 x2, .int .i64 x3, .int .i64 x4, .int .i64 x5, .int .i64 x6]
  have HW := Lib.hid hW
  have HG := Lib.hid gW
  have HS := Lib.hid sW
  have HX := Lib.hid bx
  have HY := Lib.hid by1
  clear hW gW sW bx by1
  go_enter Try.func99, Try.ntmps99
  go_wp2_with fail
  rw [← HW.out]
  (with_reducible refine (c_eqFlow x0 x1 x2 x3 x4 _).mono ?_)
  rintro e w6 ⟨rfl, hb6⟩
  have HB := Lib.hid hb6
  clear hb6
  obtain ⟨cx0, cx1, cx2, cx3, cx4, cx5, cx6, fx⟩ := (HX.out.keep HB.out).seven
  obtain ⟨cy0, cy1, cy2, cy3, cy4, cy5, cy6, fy⟩ := (HY.out.keep HB.out).seven
  go_wp2
  go_ret
  have h1 := HG.out
  exact ⟨rfl, Below.step h1 HB.out h1.size⟩
theorem zeroEntry : (Try.prog.info? 69).map (fun i => (i.zero, i.size, i.bytes)) = some (some (.agg #[.int .i64 0, .int .i64 0, .int .i64 0, .int .i64 0, .int .i64 0, .int .i64 0, .int .i64 0]), 7, 56) := by kernel_rfl
theorem elemEntry : Elem 28 69 7 56 := elem_mk (.agg #[.int .i64 0, .int .i64 0, .int .i64 0, .int .i64 0, .int .i64 0, .int .i64 0, .int .i64 0]) Try.underlying28 zeroEntry rfl (by decide) (by decide)
theorem zEntry {xs : List Int} {n k : Nat} (hl : xs.length = n * 7) (hk : k < n) {w : World} {a : Option Addr} (h : Ints w a xs) :
    ∃ b off, a = some ⟨b, off, none⟩ ∧ b < w.heap.size ∧ (w.cell? ⟨b, off + k * 7, none⟩ = some (.int .i64 (xs.getD (k * 7) 0)) ∧ w.cell? ⟨b, off + k * 7 + 1, none⟩ = some (.int .i64 (xs.getD (k * 7 + 1) 0)) ∧ w.cell? ⟨b, off + k * 7 + 2, none⟩ = some (.int .i64 (xs.getD (k * 7 + 2) 0)) ∧ w.cell? ⟨b, off + k * 7 + 3, none⟩ = some (.int .i64 (xs.getD (k * 7 + 3) 0)) ∧ w.cell? ⟨b, off + k * 7 + 4, none⟩ = some (.int .i64 (xs.getD (k * 7 + 4) 0)) ∧ w.cell? ⟨b, off + k * 7 + 5, none⟩ = some (.int .i64 (xs.getD (k * 7 + 5) 0)) ∧ w.cell? ⟨b, off + k * 7 + 6, none⟩ = some (.int .i64 (xs.getD (k * 7 + 6) 0))) := by
  rcases h with h | ⟨b, off, ha, hb, hc⟩
  · rw [h] at hl; simp at hl; omega
  · refine ⟨b, off, ha, hb, ?_, ?_, ?_, ?_, ?_, ?_, ?_⟩
    · have := hc (k * 7) (by omega); exact this
    · have := hc (k * 7 + 1) (by omega); rw [← Nat.add_assoc] at this; exact this
    · have := hc (k * 7 + 2) (by omega); rw [← Nat.add_assoc] at this; exact this
    · have := hc (k * 7 + 3) (by omega); rw [← Nat.add_assoc] at this; exact this
    · have := hc (k * 7 + 4) (by omega); rw [← Nat.add_assoc] at this; exact this
    · have := hc (k * 7 + 5) (by omega); rw [← Nat.add_assoc] at this; exact this
    · have := hc (k * 7 + 6) (by omega); rw [← Nat.add_assoc] at this; exact this
set_option maxHeartbeats 1000000 in
theorem c_eqEntryS (a b : Option Addr) (n ca cb : Nat) (xs : List Int) (w : World) (hxs : xs.length = n * 7) (hn : n ≤ 1048576) (ha : Ints w a xs) (hb : Ints w b xs) :
    Calls Try.prog 73 #[.slice a n ca, .slice b n cb] w fun e w' => e = .returned (.bool true) ∧ Below w.heap.size w w' := by
  have HX := Lib.hid hxs
  have HA := Lib.hid ha
  have HB := Lib.hid hb
  clear hxs ha hb
  go_enter Try.func73, Try.ntmps73
  go_wp2
  go_loopw [5] (fun i wr => ∃ (k : Nat), k ≤ n ∧ i = .int .i64 k ∧ Below w.heap.size w wr) (fun i _ => n - (intOf i).toNat)
  case atStart => exact ⟨0, Nat.zero_le _, rfl, Below.refl _ _⟩
  case round =>
    obtain ⟨k, hk, rfl, hG⟩ := hrel
    have HG := Lib.hid hG
    have hz := hG.size
    clear hG
    by_cases hlt : k < n
    · obtain ⟨b1, off1, rfl, _, c0, c1, c2, c3, c4, c5, c6⟩ := zEntry HX.out hlt (HA.out.below HG.out)
      obtain ⟨b2, off2, rfl, _, d0, d1, d2, d3, d4, d5, d6⟩ := zEntry HX.out hlt (HB.out.below HG.out)
      generalize xs.getD (k * 7) 0 = x0 at *
      generalize xs.getD (k * 7 + 1) 0 = x1 at *
      generalize xs.getD (k * 7 + 2) 0 = x2 at *
      generalize xs.getD (k * 7 + 3) 0 = x3 at *
      generalize xs.getD (k * 7 + 4) 0 = x4 at *
      generalize xs.getD (k * 7 + 5) 0 = x5 at *
      generalize xs.getD (k * 7 + 6) 0 = x6 at *
      have e0 := aft_cell c0
      have e1 := aft_cell c1
      have e2 := aft_cell c2
      have e3 := aft_cell c3
      have e4 := aft_cell c4
      have e5 := aft_cell c5
      have e6 := aft_cell c6
      have f0 := aft_cell d0
      have f1 := aft_cell d1
      have f2 := aft_cell d2
      have f3 := aft_cell d3
      have f4 := aft_cell d4
      have f5 := aft_cell d5
      have f6 := aft_cell d6
      clear c0 c1 c2 c3 c4 c5 c6 d0 d1 d2 d3 d4 d5 d6
      go_wp2
      refine wp_region_quietC (by kernel_rfl) (by kernel_rfl) ?_
      repeat (go_big_quiet_step ((go_at_call 99; exact aft_call (c_eqEntry _ _ _ _ _ _ _ _))))
      refine wpQuiet_nil ?_
      rintro _ ⟨⟨w6, hb6⟩, rfl⟩
      have HG6 := Lib.hid (Below.step HG.out hb6 hz)
      clear hb6 e0 f0 e1 f1 e2 f2 e3 f3 e4 f4 e5 f5 e6 f6
      go_wp2
      go_roundw
      case rel => exact ⟨k + 1, by omega, by go_num, HG6.out⟩
      case measure => simp [intOf]; omega
    · go_wp2
      go_ret
      exact ⟨rfl, HG.out⟩
set_option maxHeartbeats 2000000 in
theorem c_toEntryS (a : Option Addr) (n cap : Nat) (xs : List Int) (w : World) (hxs : xs.length = n * 7) (hn : n ≤ 1048576) (h : Ints w a xs) :
    Calls Try.prog 70 #[.slice a n cap] w (RetRow w 69 7 n (xs.map (Value.int .i64))) := by
  obtain ⟨i0, hi, hz0, hz1, hz2⟩ := info_parts zeroEntry
  have HX := Lib.hid hxs
  have HI := Lib.hid h
  clear h hxs
  go_enter Try.func70, Try.ntmps70
  go_wp2_with (at_make; refine wpList_make_full _ rfl _ _ 28 rfl w.heap.size 69 i0 (.agg #[.int .i64 0, .int .i64 0, .int .i64 0, .int .i64 0, .int .i64 0, .int .i64 0, .int .i64 0]) 7 Try.underlying28 hi hz0 hz1 .i64 .i64 _ _ n rfl rfl rfl rfl ?c1 ?c2 ?c3 ?c4)
  case c1 => rw [hz2]; omega
  case c2 => unfold maxLen; omega
  case c3 => exact Nat.le_refl _
  case c4 =>
    intro w1 hown hgr
    have HO := Lib.hid hown
    have HG := Lib.hid hgr
    clear hown hgr
    go_wp2
    go_loopw [4] (fun i wr => ∃ (k : Nat) (C : List Value), k ≤ n ∧ i = .int .i64 k ∧ C.length = n * 7 ∧ (∀ t, t < k * 7 → C[t]? = some (.int .i64 (xs.getD t 0))) ∧ wr.ownsRow w.heap.size 69 7 (.slice (some ⟨w.heap.size, 0, none⟩) n n) n C ∧ Below w.heap.size w wr) (fun i _ => n - (intOf i).toNat)
    case atStart => exact ⟨0, _, Nat.zero_le _, rfl, row_len HO.out, fun j hj => by omega, HO.out, grown_below HG.out⟩
    case round =>
      obtain ⟨k, C, hk, rfl, hC, hCk, hown, hgr⟩ := hrel
      have HO := Lib.hid hown
      have HG := Lib.hid hgr
      have HK := Lib.hid hCk
      have HC := Lib.hid hC
      have hzz := hgr.size
      clear hown hgr hCk hC
      by_cases hlt : k < n
      · obtain ⟨b, off, rfl, hb, c0, c1, c2, c3, c4, c5, c6⟩ := zEntry HX.out hlt (HI.out.below HG.out)
        generalize g0 : xs.getD (k * 7) 0 = x0 at *
        generalize g1 : xs.getD (k * 7 + 1) 0 = x1 at *
        generalize g2 : xs.getD (k * 7 + 2) 0 = x2 at *
        generalize g3 : xs.getD (k * 7 + 3) 0 = x3 at *
        generalize g4 : xs.getD (k * 7 + 4) 0 = x4 at *
        generalize g5 : xs.getD (k * 7 + 5) 0 = x5 at *
        generalize g6 : xs.getD (k * 7 + 6) 0 = x6 at *
        have HE := Lib.hid ((And.intro g0 (And.intro g1 (And.intro g2 (And.intro g3 (And.intro g4 (And.intro g5 g6)))))))
        clear g0 g1 g2 g3 g4 g5 g6
        go_wp2_with fail
        refine (c_toEntry x0 x1 x2 x3 x4 x5 x6 _).mono ?_; rintro e w2 ⟨rfl, b2⟩
        have HO2 := Lib.hid (row_below HO.out b2)
        have HG2 := Lib.hid (Below.step HG.out b2 hzz)
        clear b2 c0 c1 c2 c3 c4 c5 c6
        have hl3 : C.length = n * 7 := HC.out
        have e0 := HO2.out.cellAt (k * 7) (by omega)
        have e1 := HO2.out.cellAt (k * 7 + 1) (by omega)
        have e2 := HO2.out.cellAt (k * 7 + 2) (by omega)
        have e3 := HO2.out.cellAt (k * 7 + 3) (by omega)
        have e4 := HO2.out.cellAt (k * 7 + 4) (by omega)
        have e5 := HO2.out.cellAt (k * 7 + 5) (by omega)
        have e6 := HO2.out.cellAt (k * 7 + 6) (by omega)
        rw [List.getElem?_eq_getElem (by omega)] at e0 e1 e2 e3 e4 e5 e6
        have f0 := HO2.out.frozenAt (k * 7)
        have f1 := HO2.out.frozenAt (k * 7 + 1)
        have f2 := HO2.out.frozenAt (k * 7 + 2)
        have f3 := HO2.out.frozenAt (k * 7 + 3)
        have f4 := HO2.out.frozenAt (k * 7 + 4)
        have f5 := HO2.out.frozenAt (k * 7 + 5)
        have f6 := HO2.out.frozenAt (k * 7 + 6)
        have HS3 := Lib.hid ((((((((HO2.out.stored (k * 7) (.int .i64 x0)).1.stored (k * 7 + 1) (.int .i64 x1)).1.stored (k * 7 + 2) (.int .i64 x2)).1.stored (k * 7 + 3) (.int .i64 x3)).1.stored (k * 7 + 4) (.int .i64 x4)).1.stored (k * 7 + 5) (.int .i64 x5)).1.stored (k * 7 + 6) (.int .i64 x6)).1)
        generalize C[k * 7]'(by omega) = v0 at e0
        generalize C[k * 7 + 1]'(by omega) = v1 at e1
        generalize C[k * 7 + 2]'(by omega) = v2 at e2
        generalize C[k * 7 + 3]'(by omega) = v3 at e3
        generalize C[k * 7 + 4]'(by omega) = v4 at e4
        generalize C[k * 7 + 5]'(by omega) = v5 at e5
        generalize C[k * 7 + 6]'(by omega) = v6 at e6
        clear hl3
        go_wp2
        go_roundw
        case rel =>
          refine ⟨k + 1, (((((((C.set (k * 7) (.int .i64 x0)).set (k * 7 + 1) (.int .i64 x1)).set (k * 7 + 2) (.int .i64 x2)).set (k * 7 + 3) (.int .i64 x3)).set (k * 7 + 4) (.int .i64 x4)).set (k * 7 + 5) (.int .i64 x5)).set (k * 7 + 6) (.int .i64 x6)), by omega, by go_num, by simp [HC.out], fun t ht => ?_, HS3.out, (((((((HG2.out.setCell (by simp) _).setCell (by simp) _).setCell (by simp) _).setCell (by simp) _).setCell (by simp) _).setCell (by simp) _).setCell (by simp) _)⟩
          have hl3 := HC.out
          obtain ⟨q0, q1, q2, q3, q4, q5, q6⟩ := HE.out
          by_cases t6 : t = k * 7 + 6
          · subst t6; rw [List.getElem?_set_self (by first | omega | (simp; omega)), q6]
          by_cases t5 : t = k * 7 + 5
          · subst t5; rw [List.getElem?_set_ne (by omega)]; rw [List.getElem?_set_self (by first | omega | (simp; omega)), q5]
          by_cases t4 : t = k * 7 + 4
          · subst t4; rw [List.getElem?_set_ne (by omega)]; rw [List.getElem?_set_ne (by omega)]; rw [List.getElem?_set_self (by first | omega | (simp; omega)), q4]
          by_cases t3 : t = k * 7 + 3
          · subst t3; rw [List.getElem?_set_ne (by omega)]; rw [List.getElem?_set_ne (by omega)]; rw [List.getElem?_set_ne (by omega)]; rw [List.getElem?_set_self (by first | omega | (simp; omega)), q3]
          by_cases t2 : t = k * 7 + 2
          · subst t2; rw [List.getElem?_set_ne (by omega)]; rw [List.getElem?_set_ne (by omega)]; rw [List.getElem?_set_ne (by omega)]; rw [List.getElem?_set_ne (by omega)]; rw [List.getElem?_set_self (by first | omega | (simp; omega)), q2]
          by_cases t1 : t = k * 7 + 1
          · subst t1; rw [List.getElem?_set_ne (by omega)]; rw [List.getElem?_set_ne (by omega)]; rw [List.getElem?_set_ne (by omega)]; rw [List.getElem?_set_ne (by omega)]; rw [List.getElem?_set_ne (by omega)]; rw [List.getElem?_set_self (by first | omega | (simp; omega)), q1]
          by_cases t0 : t = k * 7
          · subst t0; rw [List.getElem?_set_ne (by omega)]; rw [List.getElem?_set_ne (by omega)]; rw [List.getElem?_set_ne (by omega)]; rw [List.getElem?_set_ne (by omega)]; rw [List.getElem?_set_ne (by omega)]; rw [List.getElem?_set_ne (by omega)]; rw [List.getElem?_set_self (by first | omega | (simp; omega)), q0]
          · rw [List.getElem?_set_ne (by omega)]; rw [List.getElem?_set_ne (by omega)]; rw [List.getElem?_set_ne (by omega)]; rw [List.getElem?_set_ne (by omega)]; rw [List.getElem?_set_ne (by omega)]; rw [List.getElem?_set_ne (by omega)]; rw [List.getElem?_set_ne (by omega)]; exact HK.out t (by omega)
        case measure => simp [intOf]; omega
      · obtain rfl : k = n := by omega
        go_wp2
        go_ret
        have := HO.out
        rw [cells_eq (by rw [HC.out, HX.out]) (fun j hj => HK.out j (by rw [← HX.out]; exact hj))] at this
        exact ⟨_, _, rfl, this, below_grown HG.out⟩
end Go.Proofs.Ytdkdfehlmphikaa
/- The map of flows that were seen: read and written. No condition. -/
namespace Go.Proofs.Ytdkdfehlmphikaa
open Go.RowKit
theorem keyLits_int (d : Nat) (n : Int) (h : (Lit.int .i64 n).wf = true) : Try.prog.keyLits (d + 1) 3 [.int .i64 n] = some [.int .i64 n] := by
  unfold Program.keyLits
  rw [Try.underlying3]
  simp [h]
theorem wf_small {n lo hi : Int} (h : inB n lo hi = true) (hl : 0 ≤ lo) (hh : hi ≤ 100000) : (Lit.int .i64 n).wf = true := by
  have := inB_true.1 h
  simp only [Lit.wf, Bool.and_eq_true, decide_eq_true_eq]
  exact ⟨by show -9223372036854775808 ≤ n; omega, by show n ≤ 9223372036854775807; omega⟩
theorem fv_parts {f : F5} (h : fv f = true) : inB f.1 0 255 = true ∧ inB f.2.1 0 999 = true ∧ inB f.2.2.1 0 255 = true ∧ inB f.2.2.2.1 0 999 = true ∧ inB f.2.2.2.2 1 2 = true := by
  simp only [fv, Bool.and_eq_true] at h
  exact ⟨h.1.1.1.1, h.1.1.2, h.1.1.1.2, h.1.2, h.2⟩
theorem flowCells : Try.prog.cellsOf 37 = 5 := by kernel_rfl
theorem intCells : Try.prog.cellsOf 3 = 1 := by kernel_rfl
theorem flowType : Try.prog.keyType 37 = true := by kernel_rfl
theorem typesMany : ∃ d, Try.prog.types.size + 1 = d + 1 + 1 := ⟨Try.prog.types.size - 1, by kernel_rfl⟩
/-- A valid flow is a key. -/
theorem key_of {f : F5} (h : fv f = true) : ∃ l, keyOf Try.prog 37 (fvv f) = some l := by
  obtain ⟨h1, h2, h3, h4, h5⟩ := fv_parts h
  have w1 := wf_small h1 (by omega) (by omega)
  have w2 := wf_small h2 (by omega) (by omega)
  have w3 := wf_small h3 (by omega) (by omega)
  have w4 := wf_small h4 (by omega) (by omega)
  have w5 := wf_small h5 (by omega) (by omega)
  have hf : (fvv f).formed Try.prog 37 = true := by simp [fvv, Value.formed, Try.underlying37, flowCells]
  obtain ⟨d, hd⟩ := typesMany
  have hk : Try.prog.keyLits (d + 1 + 1) 37 (fvv f).cells.toList = some [.int .i64 f.1, .int .i64 f.2.1, .int .i64 f.2.2.1, .int .i64 f.2.2.2.1, .int .i64 f.2.2.2.2] := by
    unfold Program.keyLits
    rw [Try.underlying37]
    simp [fvv, Value.cells, flowCells, intCells, keyLits_int, w1, w2, w3, w4, w5]
  unfold keyOf
  rw [Try.underlying37]
  simp only [flowType, hf, hd, hk]
  exact ⟨_, rfl⟩
theorem fvv_inj {f g : F5} (h : fvv f = fvv g) : f = g := by
  obtain ⟨a, b, c, d, k⟩ := f
  obtain ⟨a', b', c', d', k'⟩ := g
  simp [fvv] at h
  obtain ⟨rfl, rfl, rfl, rfl, rfl⟩ := h
  rfl
/-- Block b is the map of the flows fs that were seen. -/
def Seen (w : World) (b n : Nat) (fs : List F5) : Prop :=
  ∃ D : DataW Unit, w.ownsMap Try.prog 37 (plainElem Try.prog 4) b n D ∧ Go.Maps.IsMap D ∧
    ∀ f l, fv f = true → keyOf Try.prog 37 (fvv f) = some l → D.atKey l (.lit (.bool false)) = .lit (.bool (decide (f ∈ fs)))
theorem Seen.made (w : World) : Seen (w.alloc (.map #[] 0)) w.heap.size 0 [] :=
  ⟨_, World.ownsMap_made w _ _ _, Go.Maps.isMap_empty, fun f l _ _ => by simp [DataW.atKey]⟩
theorem Seen.kept {w w' : World} {row : Option Nat} {b n : Nat} {fs : List F5} (h : Seen w b n fs) (hg : w.grownBy w' row) (hne : some b ≠ row) : Seen w' b n fs := by
  obtain ⟨D, h1, h2, h3⟩ := h
  exact ⟨D, h1.kept hg hne, h2, h3⟩
theorem Seen.lt {w : World} {b n : Nat} {fs : List F5} (h : Seen w b n fs) : b < w.heap.size := by
  obtain ⟨D, h1, _⟩ := h
  exact h1.lt
theorem Seen.below {w w' : World} {b n : Nat} {fs : List F5} (h : Seen w b n fs) (hb : Below w.heap.size w w') : Seen w' b n fs := h.kept (below_grown hb) (by simp)
theorem Seen.look {w : World} {b n : Nat} {fs : List F5} (h : Seen w b n fs) {f : F5} (hf : fv f = true) :
    (Instr.lookup 91 (.map (some b)) (fvv f) false).run Try.prog w = .ok (.bool (decide (f ∈ fs))) w := by
  obtain ⟨D, h1, _, h3⟩ := h
  obtain ⟨l, hl⟩ := key_of hf
  have hz : (zeroValue 4).run Try.prog w = .ok (.bool false) w := by kernel_rfl
  obtain ⟨v, ps, hrun, hv⟩ := h1.lookup flowKeyed Try.underlying91 hz (plainElem_bool Try.underlying4 false) hl
  rw [h3 f l hf hl] at hv
  have : v = .bool (decide (f ∈ fs)) := by
    cases v <;> simp [plainElem, Try.underlying4] at hv
    rw [hv.1]
  rw [this] at hrun
  exact hrun
theorem wpl_seen (w : World) {ops : Array Oper} {rest : List Oper} {o : Oper} {a : Act} {Q : Exit → Act → World → Prop}
    (hg : o.guard = none) (m x v : Operand) (hop : o.op = Op.mapUpdate 91 m x v) (b n : Nat) (fs : List F5) (hm : a.eval m = .map (some b)) (hown : Seen w b n fs) (hn : n < maxLen)
    (f : F5) (hf : fv f = true) (hx : a.eval x = fvv f) (hv : a.eval v = .bool true)
    (hK : ∀ w', Seen w' b (n + 1) (fs ++ [f]) → w.grownBy w' (some b) → wpList Try.prog ops Q rest (a.put o.dst undef) w') :
    wpList Try.prog ops Q (o :: rest) a w := by
  obtain ⟨D, h1, h2, h3⟩ := hown
  obtain ⟨l, hl⟩ := key_of hf
  refine wpList_mapUpdate_own w hg m x v _ hop 37 4 flowKeyed Try.underlying91 (plainElem Try.prog 4) b n D hm h1 hn (fvv f) (.bool true) l hx hv hl (.lit (.bool true)) [] (plainElem_bool Try.underlying4 true) ?_
  intro w' r1 r2
  refine hK w' ⟨_, r1, h2.put _ _, fun g k hg' hk => ?_⟩ r2
  by_cases e : k = l
  · subst e
    have : g = f := fvv_inj (flowKeyed.inj hk hl)
    subst this
    rw [Go.Maps.atKey_put_same h2 (flowKeyed.key hl)]
    simp
  · rw [Go.Maps.atKey_put_other e, h3 g k hg' hk]
    have : g ≠ f := by
      rintro rfl
      rw [hl] at hk
      injection hk with hk
      exact e hk.symm
    simp [this]
end Go.Proofs.Ytdkdfehlmphikaa
/- Tables of flows: entries as flat cells; TableValid of the program. No condition but lists of at most 2^20 entries. -/
namespace Go.Proofs.Ytdkdfehlmphikaa
open Go.RowKit
/-- An entry: its flow, to, last. -/
abbrev E7 := F5 × Int × Int
def e0 : E7 := ((0, 0, 0, 0, 0), 0, 0)
def eI (e : E7) : List Int := [e.1.1, e.1.2.1, e.1.2.2.1, e.1.2.2.2.1, e.1.2.2.2.2, e.2.1, e.2.2]
def eInts (es : List E7) : List Int := es.flatMap eI
def evv (e : E7) : Value := .agg #[.int .i64 e.1.1, .int .i64 e.1.2.1, .int .i64 e.1.2.2.1, .int .i64 e.1.2.2.2.1, .int .i64 e.1.2.2.2.2, .int .i64 e.2.1, .int .i64 e.2.2]
theorem eInts_len (es : List E7) : (eInts es).length = es.length * 7 := by
  induction es with
  | nil => rfl
  | cons e r ih => simp only [eInts, List.flatMap_cons, List.length_append, List.length_cons] at *; rw [ih]; simp [eI]; omega
theorem eInts_nil : eInts [] = [] := rfl
theorem eInts_app (a b : List E7) : eInts (a ++ b) = eInts a ++ eInts b := by simp [eInts]
theorem eInts_one (e : E7) : eInts [e] = eI e := by simp [eInts]
theorem eInts_at : ∀ (es : List E7) (k j : Nat), k < es.length → j < 7 → (eInts es)[k * 7 + j]? = (eI (es.getD k e0))[j]?
  | [], k, j, h, _ => by simp at h
  | x :: r, 0, j, _, hj => by
    have e : eInts (x :: r) = eI x ++ eInts r := rfl
    rw [e, Nat.zero_mul, Nat.zero_add, List.getElem?_append_left (by simpa [eI] using hj)]; rfl
  | x :: r, k + 1, j, h, hj => by
    have e : eInts (x :: r) = eI x ++ eInts r := rfl
    rw [e, List.getElem?_append_right (by simp [eI]; omega)]
    have : (k + 1) * 7 + j - (eI x).length = k * 7 + j := by simp [eI]; omega
    rw [this, eInts_at r k j (by simpa using h) hj]
    simp [List.getD_eq_getElem?_getD]
theorem eInts_get {es : List E7} {k : Nat} (h : k < es.length) : (eInts es).getD (k * 7) 0 = (es.getD k e0).1.1 ∧ (eInts es).getD (k * 7 + 1) 0 = (es.getD k e0).1.2.1 ∧ (eInts es).getD (k * 7 + 2) 0 = (es.getD k e0).1.2.2.1 ∧
    (eInts es).getD (k * 7 + 3) 0 = (es.getD k e0).1.2.2.2.1 ∧ (eInts es).getD (k * 7 + 4) 0 = (es.getD k e0).1.2.2.2.2 ∧ (eInts es).getD (k * 7 + 5) 0 = (es.getD k e0).2.1 ∧ (eInts es).getD (k * 7 + 6) 0 = (es.getD k e0).2.2 := by
  have a := fun j hj => eInts_at es k j h hj
  refine ⟨?_, ?_, ?_, ?_, ?_, ?_, ?_⟩
  · rw [List.getD_eq_getElem?_getD]; have := a 0 (by omega); rw [Nat.add_zero] at this; rw [this]; rfl
  all_goals rw [List.getD_eq_getElem?_getD, a _ (by omega)]; rfl
/-- What is read of a table's entries. -/
def Ents (w : World) (a : Option Addr) (es : List E7) : Prop := Ints w a (eInts es)
theorem Ents.below {w w' : World} {a : Option Addr} {es : List E7} (h : Ents w a es) (hb : Below w.heap.size w w') : Ents w' a es := Ints.below h hb
/-- The cells of one entry. -/
def EntAt (w : World) (b off : Nat) (e : E7) : Prop :=
  w.cell? ⟨b, off, none⟩ = some (.int .i64 e.1.1) ∧ w.cell? ⟨b, off + 1, none⟩ = some (.int .i64 e.1.2.1) ∧ w.cell? ⟨b, off + 2, none⟩ = some (.int .i64 e.1.2.2.1) ∧ w.cell? ⟨b, off + 3, none⟩ = some (.int .i64 e.1.2.2.2.1) ∧
  w.cell? ⟨b, off + 4, none⟩ = some (.int .i64 e.1.2.2.2.2) ∧ w.cell? ⟨b, off + 5, none⟩ = some (.int .i64 e.2.1) ∧ w.cell? ⟨b, off + 6, none⟩ = some (.int .i64 e.2.2)
theorem Ents.at {w : World} {a : Option Addr} {es : List E7} {n k : Nat} (h : Ents w a es) (hl : es.length = n) (hk : k < n) :
    ∃ b off, a = some ⟨b, off, none⟩ ∧ b < w.heap.size ∧ ∀ j, j < n → EntAt w b (off + j * 7) (es.getD j e0) := by
  have hl7 : (eInts es).length = n * 7 := by rw [eInts_len, hl]
  rcases h with h | ⟨b, off, ha, hb, hc⟩
  · rw [h] at hl7; simp at hl7; omega
  · refine ⟨b, off, ha, hb, fun j hj => ?_⟩
    obtain ⟨g0, g1, g2, g3, g4, g5, g6⟩ := eInts_get (es := es) (k := j) (by omega)
    have c := fun t (ht : t < 7) => hc (j * 7 + t) (by rw [hl7]; omega)
    refine ⟨?_, ?_, ?_, ?_, ?_, ?_, ?_⟩
    · rw [← g0]; exact hc (j * 7) (by rw [hl7]; omega)
    · rw [← g1, Nat.add_assoc]; exact c 1 (by omega)
    · rw [← g2, Nat.add_assoc]; exact c 2 (by omega)
    · rw [← g3, Nat.add_assoc]; exact c 3 (by omega)
    · rw [← g4, Nat.add_assoc]; exact c 4 (by omega)
    · rw [← g5, Nat.add_assoc]; exact c 5 (by omega)
    · rw [← g6, Nat.add_assoc]; exact c 6 (by omega)
def eOk (es : List E7) (k : Nat) : Bool :=
  fv (es.getD k e0).1 && !(decide ((es.getD k e0).1 ∈ (es.take k).map (·.1))) && inB (es.getD k e0).2.1 0 30 && inB (es.getD k e0).2.2 0 100000 && (decide (k = 0) || decide ((es.getD (k - 1) e0).2.2 ≤ (es.getD k e0).2.2))
/-- A table is valid. -/
def tv (sz st : Int) (es : List E7) : Bool := inB sz 1 12 && inB st 1 100000 && decide ((es.length : Int) ≤ sz) && (List.range es.length).all (eOk es)
theorem tv_not {sz st : Int} {es : List E7} {k : Nat} (hk : k < es.length) (h : eOk es k = false) : tv sz st es = false := by
  rw [← Bool.not_eq_true]
  intro h'
  simp only [tv, Bool.and_eq_true, List.all_eq_true, List.mem_range] at h'
  rw [h'.2 k hk] at h; cases h
theorem tv_of {sz st : Int} {es : List E7} (h : ∀ j, j < es.length → eOk es j = true) : tv sz st es = (inB sz 1 12 && inB st 1 100000 && decide ((es.length : Int) ≤ sz)) := by
  have : (List.range es.length).all (eOk es) = true := by
    simp only [List.all_eq_true, List.mem_range]; exact h
  rw [tv, this, Bool.and_true]
theorem take_flow {es : List E7} {k n : Nat} (hl : es.length = n) (hk : k < n) : (es.take (k + 1)).map (·.1) = (es.take k).map (·.1) ++ [(es.getD k e0).1] := by
  have : es[k]? = some (es.getD k e0) := by rw [List.getD_eq_getElem?_getD, List.getElem?_eq_getElem (by omega)]; rfl
  rw [List.take_add_one, this]; simp
theorem one7 (x0 x1 x2 x3 x4 x5 x6 : Int) : ∀ u ∈ [Value.int .i64 x0, .int .i64 x1, .int .i64 x2, .int .i64 x3, .int .i64 x4, .int .i64 x5, .int .i64 x6], u.oneCell' = true := by
  intro u hu
  simp only [List.mem_cons, List.not_mem_nil, or_false] at hu
  rcases hu with rfl | rfl | rfl | rfl | rfl | rfl | rfl <;> rfl
theorem q_isTime (t : Int) (w : World) : Calls Try.prog 64 #[.int .i64 t] w fun e w' => e = .returned (.bool (inB t 0 100000)) ∧ w' = w :=
  (c_isTime t w).mono fun _ _ ⟨h1, h2⟩ => ⟨h1, h2.symm⟩
end Go.Proofs.Ytdkdfehlmphikaa
/- Flows compared: what '==' and '!=' say of two flows. No condition. -/
namespace Go.Proofs.Ytdkdfehlmphikaa
open Go.RowKit
theorem flowFields : Try.prog.underlying 37 = some (.struct (Try.prog.fieldsOf 37)) := by kernel_rfl
theorem flowStood : Try.prog.stoodInHeld 37 = false := by kernel_rfl
theorem flowGuard : Try.prog.eqGuardType Try.prog.depth 37 = false := by kernel_rfl
theorem run_eqF (f g : F5) (w : World) : (Op.equalIn 10000 37 (fvv f) (fvv g)).run Try.prog w = .ok (decide (f = g)) w := by
  obtain ⟨x0, x1, x2, x3, x4⟩ := f
  obtain ⟨y0, y1, y2, y3, y4⟩ := g
  unfold fvv
  show (Op.equalIn (9999 + 1) _ _ _).run Try.prog w = _
  rw [run_equalIn_agg _ _ _ _ _ flowFields flowStood]
  by_cases h0 : x0 = y0
  · by_cases h1 : x1 = y1
    · by_cases h2 : x2 = y2
      · by_cases h3 : x3 = y3
        · by_cases h4 : x4 = y4
          · simp [go_sem, h0, h1, h2, h3, h4]
          · simp [go_sem, h0, h1, h2, h3, h4]
        · simp [go_sem, h0, h1, h2, h3]
      · simp [go_sem, h0, h1, h2]
    · simp [go_sem, h0, h1]
  · simp [go_sem, h0]
theorem run_eqlF (f g : F5) (w : World) : (binOp .eql 37 (fvv f) (fvv g)).run Try.prog w = .ok (.bool (decide (f = g))) w := by
  have := run_eqF f g w
  unfold fvv at *
  rw [run_eql_struct, this]; rfl
theorem run_neqF (f g : F5) (w : World) : (binOp .neq 37 (fvv f) (fvv g)).run Try.prog w = .ok (.bool (!decide (f = g))) w := by
  have := run_eqF f g w
  unfold fvv at *
  rw [run_neq_struct, this]; rfl
/-- .. as the walk meets it: alike. -/
theorem eqlF_yes {f g : F5} (h : f = g) (w : World) : (binOp .eql 37 (fvv f) (fvv g)).run Try.prog w = .ok (.bool true) w := by rw [run_eqlF, decide_eq_true h]
theorem eqlF_no {f g : F5} (h : f ≠ g) (w : World) : (binOp .eql 37 (fvv f) (fvv g)).run Try.prog w = .ok (.bool false) w := by rw [run_eqlF, decide_eq_false h]
theorem neqF_yes {f g : F5} (h : f ≠ g) (w : World) : (binOp .neq 37 (fvv f) (fvv g)).run Try.prog w = .ok (.bool true) w := by rw [run_neqF, decide_eq_false h]; rfl
theorem neqF_no {f g : F5} (h : f = g) (w : World) : (binOp .neq 37 (fvv f) (fvv g)).run Try.prog w = .ok (.bool false) w := by rw [run_neqF, decide_eq_true h]; rfl
theorem eqlF_yes' {x0 x1 x2 x3 x4 y0 y1 y2 y3 y4 : Int} (h : ((x0, x1, x2, x3, x4) : F5) = (y0, y1, y2, y3, y4)) : ∀ w, (binOp .eql 37 (.agg #[.int .i64 x0, .int .i64 x1, .int .i64 x2, .int .i64 x3, .int .i64 x4]) (.agg #[.int .i64 y0, .int .i64 y1, .int .i64 y2, .int .i64 y3, .int .i64 y4])).run Try.prog w = .ok (.bool true) w := fun w => by
  have := eqlF_yes h w
  unfold fvv at this
  exact this
theorem eqlF_no' {x0 x1 x2 x3 x4 y0 y1 y2 y3 y4 : Int} (h : ((x0, x1, x2, x3, x4) : F5) ≠ (y0, y1, y2, y3, y4)) : ∀ w, (binOp .eql 37 (.agg #[.int .i64 x0, .int .i64 x1, .int .i64 x2, .int .i64 x3, .int .i64 x4]) (.agg #[.int .i64 y0, .int .i64 y1, .int .i64 y2, .int .i64 y3, .int .i64 y4])).run Try.prog w = .ok (.bool false) w := fun w => by
  have := eqlF_no h w
  unfold fvv at this
  exact this
theorem neqF_yes' {x0 x1 x2 x3 x4 y0 y1 y2 y3 y4 : Int} (h : ((x0, x1, x2, x3, x4) : F5) ≠ (y0, y1, y2, y3, y4)) : ∀ w, (binOp .neq 37 (.agg #[.int .i64 x0, .int .i64 x1, .int .i64 x2, .int .i64 x3, .int .i64 x4]) (.agg #[.int .i64 y0, .int .i64 y1, .int .i64 y2, .int .i64 y3, .int .i64 y4])).run Try.prog w = .ok (.bool true) w := fun w => by
  have := neqF_yes h w
  unfold fvv at this
  exact this
theorem neqF_no' {x0 x1 x2 x3 x4 y0 y1 y2 y3 y4 : Int} (h : ((x0, x1, x2, x3, x4) : F5) = (y0, y1, y2, y3, y4)) : ∀ w, (binOp .neq 37 (.agg #[.int .i64 x0, .int .i64 x1, .int .i64 x2, .int .i64 x3, .int .i64 x4]) (.agg #[.int .i64 y0, .int .i64 y1, .int .i64 y2, .int .i64 y3, .int .i64 y4])).run Try.prog w = .ok (.bool false) w := fun w => by
  have := neqF_no h w
  unfold fvv at this
  exact this
end Go.Proofs.Ytdkdfehlmphikaa
/- Where a flow stands in a table: l9Place of the reference. No condition but lists of at most 2^20 entries. -/
namespace Go.Proofs.Ytdkdfehlmphikaa
open Go.RowKit
/-- The place of a flow, or -1. -/
def pOf (es : List E7) (f : F5) : Int := match es.findIdx? (fun e => decide (e.1 = f)) with | some k => (k : Int) | none => -1
theorem pOf_hit {es : List E7} {f : F5} {k : Nat} (hk : k < es.length) (h : (es.getD k e0).1 = f) (hn : ∀ j, j < k → (es.getD j e0).1 ≠ f) : pOf es f = (k : Int) := by
  have : es.findIdx? (fun e => decide (e.1 = f)) = some k := by
    rw [List.findIdx?_eq_some_iff_getElem]
    refine ⟨hk, ?_, fun j hj => ?_⟩
    · rw [List.getD_eq_getElem?_getD, List.getElem?_eq_getElem hk] at h
      simpa using h
    · have := hn j hj
      rw [List.getD_eq_getElem?_getD, List.getElem?_eq_getElem (by omega)] at this
      simpa using this
  rw [pOf, this]
theorem pOf_none {es : List E7} {f : F5} (hn : ∀ j, j < es.length → (es.getD j e0).1 ≠ f) : pOf es f = -1 := by
  have : es.findIdx? (fun e => decide (e.1 = f)) = none := by
    rw [List.findIdx?_eq_none_iff]
    intro x hx
    obtain ⟨j, hj, rfl⟩ := List.getElem_of_mem hx
    have := hn j hj
    rw [List.getD_eq_getElem?_getD, List.getElem?_eq_getElem hj] at this
    simpa using this
  rw [pOf, this]
set_option maxHeartbeats 2000000 in
theorem c_place (f : F5) (a : Option Addr) (n cap : Nat) (es : List E7) (w : World) (hxs : es.length = n) (hn : n ≤ 1048576) (h : Ents w a es) :
    Calls Try.prog 82 #[.slice a n cap, fvv f] w fun e w' => e = .returned (.int .i64 (pOf es f)) ∧ Below w.heap.size w w' := by
  have HX := Lib.hid hxs
  have HI := Lib.hid h
  clear h hxs
  obtain ⟨y0, y1, y2, y3, y4⟩ := f
  unfold fvv
  go_enter Try.func82, Try.ntmps82
  go_wp2
  go_loopw [5] (fun i wr => ∃ (k : Nat), k ≤ n ∧ i = .int .i64 k ∧ Below w.heap.size w wr ∧ Box wr w.heap.size 37 [.int .i64 y0, .int .i64 y1, .int .i64 y2, .int .i64 y3, .int .i64 y4] ∧ Hid (∀ j, j < k → (es.getD j e0).1 ≠ (y0, y1, y2, y3, y4))) (fun i _ => n - (intOf i).toNat)
  case atStart => exact ⟨0, Nat.zero_le _, rfl, (Below.refl _ _).alloc (Nat.le_refl _) _, Box.new _ _ _, Lib.hid fun j hj => by omega⟩
  case round =>
    obtain ⟨k, hk, rfl, hG, hB, HV⟩ := hrel
    have HG := Lib.hid hG
    have HB := Lib.hid hB
    clear hG hB
    by_cases hlt : k < n
    · obtain ⟨b, off, rfl, hb, hc⟩ := (HI.out.below HG.out).at HX.out hlt
      obtain ⟨c0, c1, c2, c3, c4, c5, c6⟩ := hc k hlt
      obtain ⟨t0, t1, t2, t3, t4, ft⟩ := HB.out.five
      clear hc
      generalize hE : es.getD k e0 = E at *
      obtain ⟨⟨x0, x1, x2, x3, x4⟩, x5, x6⟩ := E
      have HF : Hid ((es.getD k e0).1 = (x0, x1, x2, x3, x4)) := Lib.hid (by rw [hE])
      clear hE
      dsimp only at c0 c1 c2 c3 c4 c5 c6
      by_cases hq : ((x0, x1, x2, x3, x4) : F5) = (y0, y1, y2, y3, y4)
      · have hqe : ∀ w, (binOp .eql 37 (.agg #[.int .i64 x0, .int .i64 x1, .int .i64 x2, .int .i64 x3, .int .i64 x4]) (.agg #[.int .i64 y0, .int .i64 y1, .int .i64 y2, .int .i64 y3, .int .i64 y4])).run Try.prog w = .ok (.bool true) w := eqlF_yes' hq
        have HQ := Lib.hid hq
        clear hq
        go_wp2
        go_quiet (fail)
        go_wp2
        go_ret
        exact ⟨ret_int (pOf_hit (by rw [HX.out]; exact hlt) (HF.out.trans HQ.out) HV.out).symm, below_drewN HG.out _⟩
      · have hqe : ∀ w, (binOp .eql 37 (.agg #[.int .i64 x0, .int .i64 x1, .int .i64 x2, .int .i64 x3, .int .i64 x4]) (.agg #[.int .i64 y0, .int .i64 y1, .int .i64 y2, .int .i64 y3, .int .i64 y4])).run Try.prog w = .ok (.bool false) w := eqlF_no' hq
        have HQ := Lib.hid hq
        clear hq
        go_wp2
        go_quiet (fail)
        go_wp2
        go_roundw
        case rel =>
          refine ⟨k + 1, by omega, by go_num, below_drewN HG.out _, HB.out, Lib.hid fun j hj => ?_⟩
          by_cases hjk : j = k
          · subst hjk; rw [HF.out]; exact HQ.out
          · exact HV.out j (by omega)
        case measure => simp [intOf]; omega
    · obtain rfl : k = n := by omega
      go_wp2
      go_ret
      exact ⟨ret_int (pOf_none (by rw [HX.out]; exact HV.out)).symm, HG.out⟩
theorem c_placeV (f : F5) (v : Int) (a : Option Addr) (n cap : Nat) (es : List E7) (w : World) (hxs : es.length = n) (hn : n ≤ 1048576) (h : Ents w a es) (hv : pOf es f = v) :
    Calls Try.prog 82 #[.slice a n cap, fvv f] w fun e w' => e = .returned (.int .i64 v) ∧ Below w.heap.size w w' := by
  rw [← hv]; exact c_place f a n cap es w hxs hn h
theorem pOf_cases (es : List E7) (f : F5) : (f ∉ es.map (·.1) ∧ pOf es f = -1) ∨ (f ∈ es.map (·.1) ∧ ∃ j : Nat, pOf es f = (j : Int) ∧ j < es.length ∧ (es.getD j e0).1 = f ∧ ∀ i, i < j → (es.getD i e0).1 ≠ f) := by
  unfold pOf
  cases h : es.findIdx? (fun e => decide (e.1 = f)) with
  | none =>
    left
    refine ⟨?_, rfl⟩
    rw [List.findIdx?_eq_none_iff] at h
    intro hm
    obtain ⟨e, he, hf⟩ := List.mem_map.1 hm
    have := h e he
    simp [hf] at this
  | some k =>
    right
    rw [List.findIdx?_eq_some_iff_getElem] at h
    obtain ⟨hk, h1, h2⟩ := h
    have h1' : es[k].1 = f := by simpa using h1
    refine ⟨List.mem_map.2 ⟨es[k], List.getElem_mem hk, h1'⟩, k, rfl, hk, ?_, fun i hi => ?_⟩
    · rw [List.getD_eq_getElem?_getD, List.getElem?_eq_getElem hk]; exact h1'
    · rw [List.getD_eq_getElem?_getD, List.getElem?_eq_getElem (by omega)]
      have := h2 i hi
      simpa using this
theorem eInts_take (es : List E7) (k : Nat) : eInts (es.take k) = (eInts es).take (k * 7) := by
  induction es generalizing k with
  | nil => simp [eInts]
  | cons e r ih =>
    cases k with
    | zero => simp [eInts]
    | succ k =>
      have : eInts (e :: r) = eI e ++ eInts r := rfl
      rw [List.take_succ_cons, this]
      have : eInts (e :: r.take k) = eI e ++ eInts (r.take k) := rfl
      rw [this, ih, show (k + 1) * 7 = (eI e).length + k * 7 from by show _ = 7 + k * 7; omega, List.take_length_add_append]
theorem eInts_drop (es : List E7) (k : Nat) : eInts (es.drop k) = (eInts es).drop (k * 7) := by
  induction es generalizing k with
  | nil => simp [eInts]
  | cons e r ih =>
    cases k with
    | zero => simp [eInts]
    | succ k =>
      have : eInts (e :: r) = eI e ++ eInts r := rfl
      rw [List.drop_succ_cons, this, ih, show (k + 1) * 7 = (eI e).length + k * 7 from by show _ = 7 + k * 7; omega, List.drop_length_add_append]
theorem Ents.take {w : World} {b off : Nat} {es : List E7} (h : Ents w (some ⟨b, off, none⟩) es) (k : Nat) : Ents w (some ⟨b, off, none⟩) (es.take k) := by
  unfold Ents; rw [eInts_take]; exact Ints.takeW h _
end Go.Proofs.Ytdkdfehlmphikaa
/- Looking through a table's entries: slices.IndexFunc at entries, with whatever test; find. No condition but lists of at most 2^20 entries. -/
namespace Go.Proofs.Ytdkdfehlmphikaa
open Go.RowKit
/-- The first entry that fits a test, or -1. -/
def ixP (p : E7 → Bool) (es : List E7) : Int := match es.findIdx? p with | some k => (k : Int) | none => -1
theorem ixP_hit {p : E7 → Bool} {es : List E7} {k : Nat} (hk : k < es.length) (h : p (es.getD k e0) = true) (hn : ∀ j, j < k → p (es.getD j e0) = false) : ixP p es = (k : Int) := by
  have : es.findIdx? p = some k := by
    rw [List.findIdx?_eq_some_iff_getElem]
    refine ⟨hk, ?_, fun j hj => ?_⟩
    · rwa [List.getD_eq_getElem?_getD, List.getElem?_eq_getElem hk] at h
    · have := hn j hj
      rw [List.getD_eq_getElem?_getD, List.getElem?_eq_getElem (by omega)] at this
      simpa using this
  rw [ixP, this]
theorem ixP_none {p : E7 → Bool} {es : List E7} (hn : ∀ j, j < es.length → p (es.getD j e0) = false) : ixP p es = -1 := by
  have : es.findIdx? p = none := by
    rw [List.findIdx?_eq_none_iff]
    intro x hx
    obtain ⟨j, hj, rfl⟩ := List.getElem_of_mem hx
    have := hn j hj
    rwa [List.getD_eq_getElem?_getD, List.getElem?_eq_getElem hj] at this
  rw [ixP, this]
theorem grown_any {w w' : World} {r : Option Nat} (h : w.grownBy w' none) : w.grownBy w' r := ⟨h.os, h.tape, h.output, h.size, fun k hk _ => h.block k hk (by simp)⟩
theorem getD_mem7 {es : List E7} {k : Nat} (h : k < es.length) : es.getD k e0 ∈ es := by
  rw [List.getD_eq_getElem?_getD, List.getElem?_eq_getElem h]; exact List.getElem_mem h
/-- What a test over entries is asked: the same answer in every world that came of w by making memory and by turning the block r. -/
def Tests (F : Nat) (cl : Array Value) (p : E7 → Bool) (es : List E7) (w : World) (r : Option Nat) : Prop :=
  ∀ (e : E7) (w' : World), e ∈ es → w.grownBy w' r → Calls Try.prog F (#[.agg #[.int .i64 e.1.1, .int .i64 e.1.2.1, .int .i64 e.1.2.2.1, .int .i64 e.1.2.2.2.1, .int .i64 e.1.2.2.2.2, .int .i64 e.2.1, .int .i64 e.2.2]] ++ cl) w' fun u w'' => u = .returned (.bool (p e)) ∧ Below w'.heap.size w' w''
set_option maxHeartbeats 2000000 in
theorem c_IndexE (F : Nat) (cl : Array Value) (p : E7 → Bool) (r : Option Nat) (a : Option Addr) (n cap : Nat) (es : List E7) (w : World) (hxs : es.length = n) (hn : n ≤ 1048576) (h : Ents w a es) (ht : Tests F cl p es w r)
    (eg : ∀ args w, (callFunc F args).run Try.prog w = .ok (.enter F args) w) :
    Calls Try.prog 102 #[.slice a n cap, .func (.func F) #[] cl] w fun e w' => e = .returned (.int .i64 (ixP p es)) ∧ Below w.heap.size w w' := by
  have HX := Lib.hid hxs
  have HI := Lib.hid h
  have HT := Lib.hid ht
  clear h hxs ht
  go_enter Try.func102, Try.ntmps102
  go_wp2
  go_loopw [8] (fun i wr => ∃ (k : Nat), k ≤ n ∧ i = .int .i64 k ∧ Below w.heap.size w wr ∧ Hid (∀ j, j < k → p (es.getD j e0) = false)) (fun i _ => n - (intOf i).toNat)
  case atStart => exact ⟨0, Nat.zero_le _, rfl, Below.refl _ _, Lib.hid fun j hj => by omega⟩
  case round =>
    obtain ⟨k, hk, rfl, hG, HV⟩ := hrel
    have HG := Lib.hid hG
    have hz := hG.size
    clear hG
    by_cases hlt : k < n
    · obtain ⟨b, off, rfl, hb, hc⟩ := (HI.out.below HG.out).at HX.out hlt
      obtain ⟨c0, c1, c2, c3, c4, c5, c6⟩ := hc k hlt
      clear hc
      have hcall := HT.out (es.getD k e0) wr (getD_mem7 (by rw [HX.out]; exact hlt)) (grown_any (below_grown HG.out))
      have HH := Lib.hid (fun hz => ixP_hit (es := es) (p := p) (k := k) (by rw [HX.out]; exact hlt) hz HV.out)
      have HN := Lib.hid (fun (hz : p (es.getD k e0) = false) => (fun j (hj : j < k + 1) => if hjk : j = k then hjk ▸ hz else HV.out j (by omega) : ∀ j, j < k + 1 → p (es.getD j e0) = false))
      generalize es.getD k e0 = E at *
      obtain ⟨⟨x0, x1, x2, x3, x4⟩, x5, x6⟩ := E
      dsimp only at c0 c1 c2 c3 c4 c5 c6 hcall
      cases hq : p ((x0, x1, x2, x3, x4), x5, x6)
      · have HV2 := Lib.hid (HN.out hq)
        rw [hq] at hcall
        clear hq HN HH
        go_wp2_with (go_at_fn F; refine hcall.mono ?_; rintro e w' ⟨rfl, hb'⟩)
        go_roundw
        case rel => exact ⟨k + 1, by omega, by go_num, Below.step HG.out hb' hz, HV2⟩
        case measure => simp [intOf]; omega
      · have HR := Lib.hid (HH.out hq)
        rw [hq] at hcall
        clear hq HN HH
        go_wp2_with (go_at_fn F; refine hcall.mono ?_; rintro e w' ⟨rfl, hb'⟩)
        go_ret
        exact ⟨ret_int HR.out.symm, Below.step HG.out hb' hz⟩
    · obtain rfl : k = n := by omega
      have HR := Lib.hid (ixP_none (es := es) (p := p) (by rw [HX.out]; exact HV.out))
      go_wp2
      go_ret
      exact ⟨ret_int HR.out.symm, HG.out⟩
end Go.Proofs.Ytdkdfehlmphikaa
/- The tests over entries that the program hands on (its closures), and find. No condition but lists of at most 2^20 entries. -/
namespace Go.Proofs.Ytdkdfehlmphikaa
open Go.RowKit
theorem c_find1 (x0 x1 x2 x3 x4 x5 x6 y0 y1 y2 y3 y4 : Int) (B : Nat) (w : World) (hB : Box w B 37 [.int .i64 y0, .int .i64 y1, .int .i64 y2, .int .i64 y3, .int .i64 y4]) :
    Calls Try.prog 103 #[.agg #[.int .i64 x0, .int .i64 x1, .int .i64 x2, .int .i64 x3, .int .i64 x4, .int .i64 x5, .int .i64 x6], .pointer (some ⟨B, 0, none⟩)] w fun e w' =>
      e = .returned (.bool (decide (((x0, x1, x2, x3, x4) : F5) = (y0, y1, y2, y3, y4)))) ∧ Below w.heap.size w w' := by
  obtain ⟨t0, t1, t2, t3, t4, ft⟩ := (hB.alloc (.cells #[.int .i64 x0, .int .i64 x1, .int .i64 x2, .int .i64 x3, .int .i64 x4, .int .i64 x5, .int .i64 x6] 69)).five
  by_cases hq : ((x0, x1, x2, x3, x4) : F5) = (y0, y1, y2, y3, y4)
  · have hqe := eqlF_yes' hq
    rw [decide_eq_true hq]
    clear hq
    go_enter Try.func103, Try.ntmps103
    go_wp2
    go_ret
    exact ⟨rfl, (Below.refl _ _).alloc (Nat.le_refl _) _⟩
  · have hqe := eqlF_no' hq
    rw [decide_eq_false hq]
    clear hq
    go_enter Try.func103, Try.ntmps103
    go_wp2
    go_ret
    exact ⟨rfl, (Below.refl _ _).alloc (Nat.le_refl _) _⟩
theorem c_drop1 (x0 x1 x2 x3 x4 x5 x6 y0 y1 y2 y3 y4 : Int) (B : Nat) (w : World) (hB : Box w B 37 [.int .i64 y0, .int .i64 y1, .int .i64 y2, .int .i64 y3, .int .i64 y4]) :
    Calls Try.prog 85 #[.agg #[.int .i64 x0, .int .i64 x1, .int .i64 x2, .int .i64 x3, .int .i64 x4, .int .i64 x5, .int .i64 x6], .pointer (some ⟨B, 0, none⟩)] w fun e w' =>
      e = .returned (.bool (decide (((x0, x1, x2, x3, x4) : F5) = (y0, y1, y2, y3, y4)))) ∧ Below w.heap.size w w' := by
  obtain ⟨t0, t1, t2, t3, t4, ft⟩ := (hB.alloc (.cells #[.int .i64 x0, .int .i64 x1, .int .i64 x2, .int .i64 x3, .int .i64 x4, .int .i64 x5, .int .i64 x6] 69)).five
  by_cases hq : ((x0, x1, x2, x3, x4) : F5) = (y0, y1, y2, y3, y4)
  · have hqe := eqlF_yes' hq
    rw [decide_eq_true hq]
    clear hq
    go_enter Try.func85, Try.ntmps85
    go_wp2
    go_ret
    exact ⟨rfl, (Below.refl _ _).alloc (Nat.le_refl _) _⟩
  · have hqe := eqlF_no' hq
    rw [decide_eq_false hq]
    clear hq
    go_enter Try.func85, Try.ntmps85
    go_wp2
    go_ret
    exact ⟨rfl, (Below.refl _ _).alloc (Nat.le_refl _) _⟩
/-- An entry is too old. -/
def oldB (now st : Int) (e : E7) : Bool := decide (st ≤ now - e.2.2)
theorem c_expire1 (x0 x1 x2 x3 x4 x5 x6 now sz st : Int) (v : Value) (B C : Nat) (w : World) (h6 : inB x6 0 100000 = true) (hnow : inB now 0 100000 = true) (hB : w.cell? ⟨B, 0, none⟩ = some (.int .i64 now)) (hC : Box w C 30 [.int .i64 sz, .int .i64 st, v]) :
    Calls Try.prog 90 #[.agg #[.int .i64 x0, .int .i64 x1, .int .i64 x2, .int .i64 x3, .int .i64 x4, .int .i64 x5, .int .i64 x6], .pointer (some ⟨B, 0, none⟩), .pointer (some ⟨C, 0, none⟩)] w fun e w' =>
      e = .returned (.bool (oldB now st ((x0, x1, x2, x3, x4), x5, x6))) ∧ Below w.heap.size w w' := by
  obtain ⟨t0, t1, t2, ft⟩ := (hC.alloc (.cells #[.int .i64 x0, .int .i64 x1, .int .i64 x2, .int .i64 x3, .int .i64 x4, .int .i64 x5, .int .i64 x6] 69)).three
  have hB' := keep hB (.cells #[.int .i64 x0, .int .i64 x1, .int .i64 x2, .int .i64 x3, .int .i64 x4, .int .i64 x5, .int .i64 x6] 69)
  have a1 := inB_true.1 h6
  have a2 := inB_true.1 hnow
  have hw : IntKind.i64.wrap (now - x6) = now - x6 := IntWalk.i64_in _ (by omega)
  have HR : Hid (oldB now st ((x0, x1, x2, x3, x4), x5, x6) = decide (st ≤ now - x6)) := Lib.hid rfl
  clear a1 a2 h6 hnow
  go_enter Try.func90, Try.ntmps90
  go_wp2
  go_ret
  exact ⟨ret_bool (by rw [HR.out]), (Below.refl _ _).alloc (Nat.le_refl _) _⟩
set_option maxHeartbeats 1000000 in
theorem c_find (sz st : Int) (f : F5) (a : Option Addr) (n cap : Nat) (es : List E7) (w : World) (hxs : es.length = n) (hn : n ≤ 1048576) (h : Ents w a es) :
    Calls Try.prog 81 #[.agg #[.int .i64 sz, .int .i64 st, .slice a n cap], fvv f] w fun e w' => e = .returned (.int .i64 (pOf es f)) ∧ Below w.heap.size w w' := by
  obtain ⟨y0, y1, y2, y3, y4⟩ := f
  unfold fvv
  obtain ⟨W, hW, gW, sW, bx, by1⟩ := headB w 30 37 [.int .i64 sz, .int .i64 st, .slice a n cap] [.int .i64 y0, .int .i64 y1, .int .i64 y2, .int .i64 y3, .int .i64 y4]
  have HW := Lib.hid hW
  have HG := Lib.hid gW
  have HX := Lib.hid hxs
  have HE := Lib.hid (h.below gW)
  have ht : Tests 103 #[.pointer (some ⟨w.heap.size + 1, 0, none⟩)] (fun e => decide (e.1 = (y0, y1, y2, y3, y4))) es W none := fun e w' _ hg => by
    exact c_find1 _ _ _ _ _ _ _ _ _ _ _ _ _ _ (by1.kept hg (by simp))
  have HT := Lib.hid ht
  clear hW gW sW bx by1 ht h hxs
  go_enter Try.func81, Try.ntmps81
  go_wp2_with fail
  rw [← HW.out]
  refine (c_IndexE 103 _ _ none a n cap es W HX.out hn HE.out HT.out (enters_of Try.func103 (by kernel_rfl) rfl)).mono ?_
  rintro e w' ⟨rfl, hb⟩
  have HB := Lib.hid hb
  clear hb
  go_wp2
  go_ret
  exact ⟨rfl, Below.step HG.out HB.out HG.out.size⟩
end Go.Proofs.Ytdkdfehlmphikaa
/- slices.DeleteFunc at entries, with whatever test, on a row of one's own. No condition but lists of at most 2^20 entries. -/
namespace Go.Proofs.Ytdkdfehlmphikaa
open Go.RowKit
theorem set_cons7 (e : E7) (L : List Int) (m j : Nat) (v : Int) : (eI e ++ L).set ((m + 1) * 7 + j) v = eI e ++ L.set (m * 7 + j) v := by
  rw [List.set_append_right _ _ (by show 7 ≤ _; omega)]
  congr 2
  show _ - 7 = _; omega
theorem eInts_set : ∀ (ds : List E7) (i : Nat) (e : E7), i < ds.length → eInts (ds.set i e) =
    (((((((eInts ds).set (i * 7) e.1.1).set (i * 7 + 1) e.1.2.1).set (i * 7 + 2) e.1.2.2.1).set (i * 7 + 3) e.1.2.2.2.1).set (i * 7 + 4) e.1.2.2.2.2).set (i * 7 + 5) e.2.1).set (i * 7 + 6) e.2.2
  | [], i, e, h => by simp at h
  | x :: r, 0, e, _ => by
    have a : eInts (x :: r) = eI x ++ eInts r := rfl
    have b : eInts (e :: r) = eI e ++ eInts r := rfl
    rw [List.set_cons_zero, a, b]
    simp [eI]
  | x :: r, i + 1, e, h => by
    have a : eInts (x :: r) = eI x ++ eInts r := rfl
    have b : eInts (x :: r.set i e) = eI x ++ eInts (r.set i e) := rfl
    rw [List.set_cons_succ, b, eInts_set r i e (by simpa using h), a]
    have c := set_cons7 x
    have c0 := fun L m v => c L m 0 v
    simp only [Nat.add_zero] at c0
    rw [c0, c, c, c, c, c, c]
/-- The cells of entries. -/
abbrev eCells (es : List E7) : List Value := (eInts es).map (Value.int .i64)
/-- A row of the call's own holds these entries. -/
abbrev EntRow (w : World) (base : Nat) (a : Option Addr) (n cap : Nat) (es : List E7) : Prop := w.ownsRow base 69 7 (.slice a n cap) n (eCells es)
theorem EntRow.ents {w : World} {base : Nat} {a : Option Addr} {n cap : Nat} {es : List E7} (h : EntRow w base a n cap es) : Ents w a es := Vals.ints (row_vals h)
theorem EntRow.len {w : World} {base : Nat} {a : Option Addr} {n cap : Nat} {es : List E7} (h : EntRow w base a n cap es) : es.length = n := by
  have := row_len h
  rw [List.length_map, eInts_len] at this
  omega
theorem EntRow.put {w : World} {base g n cap i : Nat} {es : List E7} (h : EntRow w base (some ⟨g, 0, none⟩) n cap es) (hi : i < n) (e : E7) :
    EntRow (((((((w.setCell ⟨g, i * 7, none⟩ (.int .i64 e.1.1)).setCell ⟨g, i * 7 + 1, none⟩ (.int .i64 e.1.2.1)).setCell ⟨g, i * 7 + 2, none⟩ (.int .i64 e.1.2.2.1)).setCell ⟨g, i * 7 + 3, none⟩ (.int .i64 e.1.2.2.2.1)).setCell ⟨g, i * 7 + 4, none⟩ (.int .i64 e.1.2.2.2.2)).setCell ⟨g, i * 7 + 5, none⟩ (.int .i64 e.2.1)).setCell ⟨g, i * 7 + 6, none⟩ (.int .i64 e.2.2)) base (some ⟨g, 0, none⟩) n cap (es.set i e) ∧
    w.grownBy (((((((w.setCell ⟨g, i * 7, none⟩ (.int .i64 e.1.1)).setCell ⟨g, i * 7 + 1, none⟩ (.int .i64 e.1.2.1)).setCell ⟨g, i * 7 + 2, none⟩ (.int .i64 e.1.2.2.1)).setCell ⟨g, i * 7 + 3, none⟩ (.int .i64 e.1.2.2.2.1)).setCell ⟨g, i * 7 + 4, none⟩ (.int .i64 e.1.2.2.2.2)).setCell ⟨g, i * 7 + 5, none⟩ (.int .i64 e.2.1)).setCell ⟨g, i * 7 + 6, none⟩ (.int .i64 e.2.2)) (some g) := by
  have hl := h.len
  have s0 := h.stored (i * 7) (.int .i64 e.1.1)
  have s1 := s0.1.stored (i * 7 + 1) (.int .i64 e.1.2.1)
  have s2 := s1.1.stored (i * 7 + 2) (.int .i64 e.1.2.2.1)
  have s3 := s2.1.stored (i * 7 + 3) (.int .i64 e.1.2.2.2.1)
  have s4 := s3.1.stored (i * 7 + 4) (.int .i64 e.1.2.2.2.2)
  have s5 := s4.1.stored (i * 7 + 5) (.int .i64 e.2.1)
  have s6 := s5.1.stored (i * 7 + 6) (.int .i64 e.2.2)
  refine ⟨?_, grownBy_tr s0.2 (grownBy_tr s1.2 (grownBy_tr s2.2 (grownBy_tr s3.2 (grownBy_tr s4.2 (grownBy_tr s5.2 s6.2)))))⟩
  have e1 : eCells (es.set i e) = (((((((eCells es).set (i * 7) (.int .i64 e.1.1)).set (i * 7 + 1) (.int .i64 e.1.2.1)).set (i * 7 + 2) (.int .i64 e.1.2.2.1)).set (i * 7 + 3) (.int .i64 e.1.2.2.2.1)).set (i * 7 + 4) (.int .i64 e.1.2.2.2.2)).set (i * 7 + 5) (.int .i64 e.2.1)).set (i * 7 + 6) (.int .i64 e.2.2) := by
    unfold eCells
    rw [eInts_set es i e (by omega)]
    simp only [List.map_set]
  unfold EntRow
  rw [e1]
  exact s6.1
theorem eCells_at {es : List E7} {k j : Nat} (hk : k < es.length) (hj : j < 7) : (eCells es)[k * 7 + j]? = ((eI (es.getD k e0))[j]?).map (Value.int .i64) := by
  rw [List.getElem?_map, eInts_at es k j hk hj]
/-- The cells of a row's entry, and that none is frozen. -/
theorem EntRow.cells {w : World} {base g n cap k : Nat} {es : List E7} (h : EntRow w base (some ⟨g, 0, none⟩) n cap es) (hk : k < n) :
    (w.cell? ⟨g, k * 7, none⟩ = some (.int .i64 (es.getD k e0).1.1) ∧ w.cell? ⟨g, k * 7 + 1, none⟩ = some (.int .i64 (es.getD k e0).1.2.1) ∧ w.cell? ⟨g, k * 7 + 2, none⟩ = some (.int .i64 (es.getD k e0).1.2.2.1) ∧ w.cell? ⟨g, k * 7 + 3, none⟩ = some (.int .i64 (es.getD k e0).1.2.2.2.1) ∧
     w.cell? ⟨g, k * 7 + 4, none⟩ = some (.int .i64 (es.getD k e0).1.2.2.2.2) ∧ w.cell? ⟨g, k * 7 + 5, none⟩ = some (.int .i64 (es.getD k e0).2.1) ∧ w.cell? ⟨g, k * 7 + 6, none⟩ = some (.int .i64 (es.getD k e0).2.2)) ∧ ∀ i, w.frozen? ⟨g, i, none⟩ = false := by
  have hl := h.len
  have hn := row_len h
  have c := fun j (hj : j < 7) => (h.cellAt (k * 7 + j) (by omega)).trans (eCells_at (es := es) (k := k) (by omega) hj)
  exact ⟨⟨c 0 (by omega), c 1 (by omega), c 2 (by omega), c 3 (by omega), c 4 (by omega), c 5 (by omega), c 6 (by omega)⟩, fun i => h.frozenAt i⟩
theorem ixP_cases (p : E7 → Bool) (es : List E7) : (ixP p es = -1 ∧ ∀ j, j < es.length → p (es.getD j e0) = false) ∨ ∃ k : Nat, ixP p es = (k : Int) ∧ k < es.length ∧ p (es.getD k e0) = true ∧ ∀ j, j < k → p (es.getD j e0) = false := by
  unfold ixP
  cases h : es.findIdx? p with
  | none =>
    left
    refine ⟨rfl, fun j hj => ?_⟩
    rw [List.findIdx?_eq_none_iff] at h
    rw [List.getD_eq_getElem?_getD, List.getElem?_eq_getElem hj]
    exact h _ (List.getElem_mem hj)
  | some k =>
    right
    rw [List.findIdx?_eq_some_iff_getElem] at h
    obtain ⟨hk, h1, h2⟩ := h
    refine ⟨k, rfl, hk, ?_, fun j hj => ?_⟩
    · rw [List.getD_eq_getElem?_getD, List.getElem?_eq_getElem hk]; exact h1
    · rw [List.getD_eq_getElem?_getD, List.getElem?_eq_getElem (by omega)]
      simpa using h2 j hj
theorem run_clearE (w : World) (ty : TypeId) (b o n c : Nat) (hn : 0 < n) (hc : ∀ j, j < n * 7 → (w.cell? ⟨b, o + j, none⟩).isSome = true) (hf : ∀ j, j < n * 7 → w.frozen? ⟨b, o + j, none⟩ = false) :
    (Builtin.clear_ #[28] ty #[.slice (some ⟨b, o, none⟩) n c]).run Try.prog w = .ok (.tuple #[]) (w.setCells b o (List.replicate (n * 7) (.int .i64 0))) := by
  have hz : ∀ w, (zeroValue 69).run Try.prog w = .ok (.agg #[.int .i64 0, .int .i64 0, .int .i64 0, .int .i64 0, .int .i64 0, .int .i64 0, .int .i64 0]) w := fun w => by kernel_rfl
  have hzc : (Builtin.zeroCells (Value.agg #[.int .i64 0, .int .i64 0, .int .i64 0, .int .i64 0, .int .i64 0, .int .i64 0, .int .i64 0]).cells n).toList = List.replicate (n * 7) (.int .i64 0) := by
    simp only [Builtin.zeroCells, Value.cells]
    apply List.ext_getElem
    · simp
    · intro i h1 h2
      simp
      have : i % 7 < 7 := Nat.mod_lt _ (by omega)
      generalize i % 7 = m at this
      match m, this with
      | 0, _ => rfl
      | 1, _ => rfl
      | 2, _ => rfl
      | 3, _ => rfl
      | 4, _ => rfl
      | 5, _ => rfl
      | 6, _ => rfl
  have hst := run_storeCells_cells (P := Try.prog) b o (List.replicate (n * 7) (.int .i64 0)) 0 w (by simpa using hc) (by simpa using hf) (by intro v hv'; rw [List.eq_of_mem_replicate hv']; rfl)
  simp only [Nat.add_zero] at hst
  obtain ⟨m, rfl⟩ : ∃ m, n = m + 1 := ⟨n - 1, by omega⟩
  simp [Builtin.clear_, run_underlying Try.underlying28, hz, hzc, hst]
theorem gb_setCells (w : World) (g : Nat) : ∀ (vs : List Value) (o : Nat) (w' : World), w.grownBy w' (some g) → w.grownBy (w'.setCells g o vs) (some g)
  | [], _, _, h => h
  | v :: r, o, w', h => gb_setCells w g r (o + 1) _ (grownBy_tr h (gb_setp w' ⟨g, o, none⟩ v))
/-- What the walk is told of entries that came in. -/
def IsEnts (w : World) (a : Option Addr) (n cap : Nat) (es : List E7) : Prop := es.length = n ∧ n ≤ cap ∧ cap ≤ maxLen ∧ (a = none → n = 0 ∧ cap = 0) ∧ Ents w a es
end Go.Proofs.Ytdkdfehlmphikaa
/- slices.DeleteFunc at entries: the walk. No condition but lists of at most 2^20 entries. -/
namespace Go.Proofs.Ytdkdfehlmphikaa
open Go.RowKit
theorem keep_all {p : E7 → Bool} {es : List E7} (h : ∀ j, j < es.length → p (es.getD j e0) = false) : es.filter (fun e => !p e) = es := by
  rw [List.filter_eq_self]
  intro x hx
  obtain ⟨j, hj, rfl⟩ := List.getElem_of_mem hx
  have := h j hj
  rw [List.getD_eq_getElem?_getD, List.getElem?_eq_getElem hj] at this
  simpa using this
theorem take_one {es : List E7} {k n : Nat} (hl : es.length = n) (hk : k < n) : es.take (k + 1) = es.take k ++ [es.getD k e0] := by
  have : es[k]? = some (es.getD k e0) := by rw [List.getD_eq_getElem?_getD, List.getElem?_eq_getElem (by omega)]; rfl
  rw [List.take_add_one, this]; rfl
/-- Where DeleteFunc stands: those kept of the first j stand ahead of place i; from j on all is as it was. -/
structure Mid (p : E7 → Bool) (es ds : List E7) (i j : Nat) : Prop where
  lt : i < j
  le : j ≤ es.length
  size : ds.length = es.length
  low : ds.take i = (es.take j).filter (fun e => !p e)
  high : ∀ t, j ≤ t → t < es.length → ds.getD t e0 = es.getD t e0
theorem Mid.start {p : E7 → Bool} {es : List E7} {k : Nat} (hk : k < es.length) (h1 : p (es.getD k e0) = true) (h2 : ∀ j, j < k → p (es.getD j e0) = false) : Mid p es es k (k + 1) := by
  refine ⟨by omega, by omega, rfl, ?_, fun t _ _ => rfl⟩
  rw [take_one rfl hk, List.filter_append]
  have : (es.take k).filter (fun e => !p e) = es.take k := by
    apply keep_all
    intro j hj
    rw [List.length_take] at hj
    have := h2 j (by omega)
    rw [List.getD_eq_getElem?_getD, List.getElem?_take, if_pos (by omega), ← List.getD_eq_getElem?_getD]
    exact this
  rw [this]
  simp [-List.getD_eq_getElem?_getD, h1]
theorem Mid.skip {p : E7 → Bool} {es ds : List E7} {i j : Nat} (h : Mid p es ds i j) (hj : j < es.length) (hp : p (es.getD j e0) = true) : Mid p es ds i (j + 1) := by
  refine ⟨by have := h.lt; omega, by omega, h.size, ?_, fun t h1 h2 => h.high t (by omega) h2⟩
  rw [h.low, take_one rfl hj, List.filter_append]
  simp [-List.getD_eq_getElem?_getD, hp]
theorem Mid.keepIt {p : E7 → Bool} {es ds : List E7} {i j : Nat} (h : Mid p es ds i j) (hj : j < es.length) (hp : p (es.getD j e0) = false) : Mid p es (ds.set i (es.getD j e0)) (i + 1) (j + 1) := by
  have hlt := h.lt
  have hs := h.size
  refine ⟨by omega, by omega, by simp [h.size], ?_, fun t h1 h2 => ?_⟩
  · have e1 : (ds.set i (es.getD j e0)).take (i + 1) = ds.take i ++ [es.getD j e0] := by
      rw [take_one (n := ds.length) (by simp) (by omega), List.take_set_of_le (by omega)]
      congr 2
      rw [List.getD_eq_getElem?_getD, List.getElem?_set_self (by omega)]; rfl
    rw [e1, h.low, take_one rfl hj, List.filter_append]
    simp [-List.getD_eq_getElem?_getD, hp]
  · rw [← h.high t (by omega) h2, List.getD_eq_getElem?_getD, List.getElem?_set_ne (by omega), ← List.getD_eq_getElem?_getD]
theorem Mid.done {p : E7 → Bool} {es ds : List E7} {i : Nat} (h : Mid p es ds i es.length) : ds.take i = es.filter (fun e => !p e) ∧ (es.filter (fun e => !p e)).length = i := by
  have h1 := h.low
  rw [List.take_length] at h1
  refine ⟨h1, ?_⟩
  rw [← h1, List.length_take]
  have := h.lt
  have := h.size
  omega
theorem Ents.setTail {w : World} {g o : Nat} {ks : List E7} (h : Ents w (some ⟨g, 0, none⟩) ks) (ho : ks.length * 7 ≤ o) (vs : List Value) : Ents (w.setCells g o vs) (some ⟨g, 0, none⟩) ks := by
  rcases h with h | ⟨b, off, ha, hb, hc⟩
  · exact .inl h
  · cases ha
    refine .inr ⟨g, 0, rfl, Nat.lt_of_lt_of_le hb (gb_setCells w g vs o w (World.grownBy.refl _ _)).size, fun i hi => ?_⟩
    rw [World.cell?_setCells_out g vs o w _ (fun _ _ => .inl (by rw [eInts_len] at hi; show 0 + i < o; omega))]
    exact hc i hi
/-- What DeleteFunc hands back: the slice cut to what is kept. -/
def RetDel (w : World) (a : Option Addr) (cap : Nat) (r : Option Nat) (ks : List E7) (e : Ending) (w' : World) : Prop :=
  e = .returned (.slice a ks.length cap) ∧ Ents w' a ks ∧ w.grownBy w' r
theorem c_IndexN (F : Nat) (cl : Array Value) (w : World) :
    Calls Try.prog 102 #[.slice none 0 0, .func (.func F) #[] cl] w fun e w' => e = .returned (.int .i64 (-1)) ∧ Below w.heap.size w w' := by
  go_enter Try.func102, Try.ntmps102
  go_wp2
  go_loop [8] (fun i => i = .int .i64 0) (fun _ => 0)
  case atStart => rfl
  case round =>
    subst hrel
    go_wp2
    go_ret
    exact ⟨rfl, Below.refl _ _⟩
set_option maxRecDepth 100000 in
set_option maxHeartbeats 4000000 in
theorem c_DeleteE' (F : Nat) (cl : Array Value) (p : E7 → Bool) (base g : Nat) (n cap : Nat) (es : List E7) (w : World) (hn : n ≤ 1048576) (h : EntRow w base (some ⟨g, 0, none⟩) n cap es) (ht : Tests F cl p es w (some g))
    (eg : ∀ args w, (callFunc F args).run Try.prog w = .ok (.enter F args) w) :
    Calls Try.prog 84 #[.slice (some ⟨g, 0, none⟩) n cap, .func (.func F) #[] cl] w (RetDel w (some ⟨g, 0, none⟩) cap (some g) (es.filter (fun e => !p e))) := by
  have hxs := h.len
  have HX := Lib.hid hxs
  have HO := Lib.hid h
  have HT := Lib.hid ht
  have hcp := (row_cap h)
  have hgw : g < w.heap.size := (h.lt g rfl).2
  have HIX := Lib.hid (c_IndexE F cl p (some g) (some ⟨g, 0, none⟩) n cap es w hxs hn h.ents ht eg)
  rcases ixP_cases p es with ⟨hi, hall⟩ | ⟨k0, hi, hk0, hk1, hk2⟩
  · have HK := Lib.hid (keep_all (p := p) (es := es) hall)
    rw [hi] at HIX
    clear hxs h ht hall hi
    go_enter Try.func84, Try.ntmps84
    go_wp2_with (go_at_call 102; refine HIX.out.mono ?_; rintro e w' ⟨rfl, hb⟩)
    go_ret
    refine ⟨?_, ?_, grown_any (below_grown hb)⟩
    · rw [HK.out, HX.out]; rfl
    · rw [HK.out]; exact HO.out.ents.below hb
  · have HM := Lib.hid (Mid.start hk0 hk1 hk2)
    rw [hi] at HIX
    have hk0' : k0 < n := by rw [← HX.out]; exact hk0
    have hne1 : ((k0 : Int) == -1) = false := beq_eq_false_iff_ne.2 (by omega)
    clear hxs h ht hk0 hk1 hk2 hi
    go_enter Try.func84, Try.ntmps84
    go_wp2_with (go_at_call 102; refine HIX.out.mono ?_; rintro e w' ⟨rfl, hb⟩)
    have HB := Lib.hid hb
    clear hb HIX
    go_loopw [5, 6] (fun s i wr => ∃ (m j : Nat) (ds : List E7), j ≤ n ∧ s = .int .i64 m ∧ i = .int .i64 j ∧ EntRow wr base (some ⟨g, 0, none⟩) n cap ds ∧ w.grownBy wr (some g) ∧ Hid (Mid p es ds m j)) (fun _ i _ => n - (intOf i).toNat)
    case atStart => exact ⟨k0, k0 + 1, es, by omega, rfl, by go_num, row_below HO.out HB.out, grown_any (below_grown HB.out), HM⟩
    case round =>
      obtain ⟨m, j, ds, hj, rfl, rfl, hO, hG, HM'⟩ := hrel
      have HO' := Lib.hid hO
      have HG := Lib.hid hG
      have hz := hG.size
      have hmj := HM'.out.lt
      clear hO hG
      by_cases hlt : j < n
      · obtain ⟨⟨c0, c1, c2, c3, c4, c5, c6⟩, fc⟩ := HO'.out.cells (k := j) hlt
        have hgd := HM'.out.high j (Nat.le_refl _) (by rw [HX.out]; exact hlt)
        rw [hgd] at c0 c1 c2 c3 c4 c5 c6
        have HS := Lib.hid (fun hp => HM'.out.skip (by rw [HX.out]; exact hlt) hp)
        have HP := Lib.hid (fun hp => HM'.out.keepIt (by rw [HX.out]; exact hlt) hp)
        have HTT := fun w' => HT.out (es.getD j e0) w' (getD_mem7 (by rw [HX.out]; exact hlt))
        have HHT := Lib.hid HTT
        clear hgd HTT fc
        generalize es.getD j e0 = E at *
        obtain ⟨⟨x0, x1, x2, x3, x4⟩, x5, x6⟩ := E
        dsimp only at c0 c1 c2 c3 c4 c5 c6
        obtain ⟨W, hW⟩ : ∃ W, W = wr.alloc (.cells #[.int .i64 x0, .int .i64 x1, .int .i64 x2, .int .i64 x3, .int .i64 x4, .int .i64 x5, .int .i64 x6] 69) := ⟨_, rfl⟩
        have hGW : w.grownBy W (some g) := by rw [hW]; exact gb_al HG.out _
        have hEW : Box W wr.heap.size 69 [.int .i64 x0, .int .i64 x1, .int .i64 x2, .int .i64 x3, .int .i64 x4, .int .i64 x5, .int .i64 x6] := by rw [hW]; exact Box.new _ _ _
        have hOW : EntRow W base (some ⟨g, 0, none⟩) n cap ds := by rw [hW]; exact row_below HO'.out ((Below.refl _ _).alloc (Nat.le_refl _) _)
        have hcall := HHT.out W hGW
        dsimp only at hcall
        have HW := Lib.hid hW
        have HGW := Lib.hid hGW
        have HEW := Lib.hid hEW
        have HOW := Lib.hid hOW
        clear hW hGW hEW hOW HHT
        cases hq : p ((x0, x1, x2, x3, x4), x5, x6)
        · rw [hq] at hcall
          have HP2 := Lib.hid (HP.out hq)
          clear hq HP HS
          have HC := Lib.hid hcall
          clear hcall
          go_wp2_with fail
          rw [← HW.out]
          refine HC.out.mono ?_
          rintro e w6 ⟨rfl, hb6⟩
          have HB6 := Lib.hid hb6
          have HO6 : Hid (EntRow w6 base (some ⟨g, 0, none⟩) n cap ds) := Lib.hid (row_below HOW.out hb6)
          obtain ⟨v0, v1, v2, v3, v4, v5, v6, fv6⟩ := (HEW.out.keep hb6).seven
          clear hb6 c0 c1 c2 c3 c4 c5 c6
          obtain ⟨⟨d0, d1, d2, d3, d4, d5, d6⟩, fd⟩ := HO6.out.cells (k := m) (by omega)
          have HPUT := Lib.hid (HO6.out.put (i := m) (by omega) ((x0, x1, x2, x3, x4), x5, x6))
          generalize ds.getD m e0 = E2 at *
          obtain ⟨⟨z0, z1, z2, z3, z4⟩, z5, z6⟩ := E2
          dsimp only at d0 d1 d2 d3 d4 d5 d6
          go_wp2
          go_roundw
          case rel =>
            obtain ⟨q1, q2⟩ := HPUT.out
            exact ⟨m + 1, j + 1, _, by omega, by go_num, by go_num, q1, grownBy_tr HGW.out (grownBy_tr (grown_any (below_grown HB6.out)) q2), HP2⟩
          case measure => simp [intOf]; omega
        · rw [hq] at hcall
          have HS2 := Lib.hid (HS.out hq)
          clear hq HP HS
          have HC := Lib.hid hcall
          clear hcall
          go_wp2_with fail
          rw [← HW.out]
          refine HC.out.mono ?_
          rintro e w6 ⟨rfl, hb6⟩
          have HB6 := Lib.hid hb6
          have HO6 : Hid (EntRow w6 base (some ⟨g, 0, none⟩) n cap ds) := Lib.hid (row_below HOW.out hb6)
          clear hb6 c0 c1 c2 c3 c4 c5 c6
          go_wp2
          go_roundw
          case rel => exact ⟨m, j + 1, ds, by omega, rfl, by go_num, HO6.out, grownBy_tr HGW.out (grown_any (below_grown HB6.out)), HS2⟩
          case measure => simp [intOf]; omega
      · obtain rfl : j = n := by omega
        have HD := Lib.hid (HM'.out)
        have hmn : m < j := by omega
        have hcl : ∀ ty, (Builtin.clear_ #[28] ty #[.slice (some ⟨g, m * 7, none⟩) (j - m) (cap - m)]).run Try.prog wr = .ok (.tuple #[]) (wr.setCells g (m * 7) (List.replicate ((j - m) * 7) (.int .i64 0))) := fun ty => by
          have hrl := row_len HO'.out
          refine run_clearE wr ty g (m * 7) (j - m) (cap - m) (by omega) (fun t ht => ?_) (fun t _ => HO'.out.frozenAt _)
          rw [HO'.out.cellAt (m * 7 + t) (by omega), List.getElem?_eq_getElem (by omega)]; rfl
        have hmc : m ≤ cap := by omega
        have hmc2 : ¬ m = cap := by omega
        have hmc3 : ¬ cap = m := by omega
        have HRL := Lib.hid HX.out
        clear hcp
        go_wp2
        go_ret
        have hdn := HD.out
        rw [← HRL.out] at hdn
        obtain ⟨h1, h2⟩ := hdn.done
        refine ⟨by rw [h2]; rfl, ?_, grownBy_tr HG.out (gb_setCells _ g _ _ _ (World.grownBy.refl _ _))⟩
        rw [← h1]
        exact (HO'.out.ents.take m).setTail (by rw [List.length_take]; have := Nat.min_le_left m ds.length; omega) _
theorem c_DeleteNil (F : Nat) (cl : Array Value) (w : World) :
    Calls Try.prog 84 #[.slice none 0 0, .func (.func F) #[] cl] w (RetDel w none 0 none []) := by
  have HIX := Lib.hid (c_IndexN F cl w)
  go_enter Try.func84, Try.ntmps84
  go_wp2_with (go_at_call 102; refine HIX.out.mono ?_; rintro e w' ⟨rfl, hb⟩)
  go_ret
  exact ⟨rfl, .inl rfl, below_grown hb⟩
theorem c_DeleteE (F : Nat) (cl : Array Value) (p : E7 → Bool) (base : Nat) (a : Option Addr) (n cap : Nat) (es : List E7) (w : World) (hn : n ≤ 1048576) (h : EntRow w base a n cap es) (ht : Tests F cl p es w (Value.slice a n cap).ownBlock)
    (eg : ∀ args w, (callFunc F args).run Try.prog w = .ok (.enter F args) w) :
    Calls Try.prog 84 #[.slice a n cap, .func (.func F) #[] cl] w (RetDel w a cap (Value.slice a n cap).ownBlock (es.filter (fun e => !p e))) := by
  rcases h.2 with ⟨h1, h2⟩ | ⟨g, c, cur, h1, _⟩
  · injection h1 with h3 h4 h5
    subst h3 h4 h5
    have : es = [] := List.eq_nil_of_length_eq_zero h.len
    subst this
    exact c_DeleteNil F cl w
  · injection h1 with h3 _ h5
    subst h3 h5
    exact c_DeleteE' F cl p base g n cap es w hn h ht eg
end Go.Proofs.Ytdkdfehlmphikaa
