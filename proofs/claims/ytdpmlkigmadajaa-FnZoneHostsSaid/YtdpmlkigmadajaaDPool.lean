/- The draw of a pool. No condition. -/
import Derived.Test.YtdpmlkigmadajaaZone
import Derived.Test.YtdpmlkigmadajaaTyX
namespace Go.Proofs.Ytdpmlkigmadajaa
open Go.RowKit
variable {D : Nat}
theorem run_bH (o : Oper) (ρ : Operand → Value) (w : World) (x0 x1 x2 : Operand) (m0 m1 m2 : Int) (ho : o.op = .build 76 #[(0, x0), (1, x1), (2, x2)]) (h0 : ρ x0 = .int .i64 m0) (h1 : ρ x1 = .int .i64 m1) (h2 : ρ x2 = .int .i64 m2) :
    (execOp ρ o).run Try.prog w = .ok (.value (.agg #[.int .i64 m0, .int .i64 m1, .int .i64 m2])) w := by
  simp [execOp, ho, h0, h1, h2, go_sem]
theorem run_bsH (o : Oper) (ρ : Operand → Value) (w : World) (x : Operand) (m0 m1 m2 : Int) (ho : o.op = .buildSlice 31 1 #[(0, x)]) (hx : ρ x = .agg #[.int .i64 m0, .int .i64 m1, .int .i64 m2]) :
    (execOp ρ o).run Try.prog w = .ok (.value (.slice (some ⟨w.heap.size, 0, none⟩) 1 1)) (w.alloc (.cells #[.int .i64 m0, .int .i64 m1, .int .i64 m2] 76)) := by
  simp [execOp, ho, hx, go_sem]
theorem wp_val2 {Q : Exit → Act → World → Prop} {o : Oper} {d : Tmp} {a : Act} {w w1 : World} {v : Value} {K : Act → World → Prop} (hd : o.dst = some d) (h : (execOp a.eval o).run Try.prog w = .ok (.value v) w1) (hK : K (a.put (some d) v) w1) : Oper.wp Try.prog o a w K Q := by
  unfold Oper.wp
  rw [h]
  have : K (a.put o.dst v) w1 := by rw [hd]; exact hK
  exact this
/-- A pool of at most 7 hosts is drawn; besides the reader nothing that was there has turned. -/
def RetP (D : Nat) (w : World) (g p m : Nat) (e : Ending) (w' : World) : Prop :=
  ∃ (b cap : Nat) (hs : List H3), e = .returned (.slice (some ⟨b, 0, none⟩) hs.length cap) ∧ hs.length ≤ 7 ∧
    w'.ownsRow w.heap.size 76 3 (.slice (some ⟨b, 0, none⟩) hs.length cap) hs.length (hcells hs) ∧ (∃ p', p' ≤ p + m ∧ Rd D w' g p') ∧ w.grownBy w' (some g)
/-- What is said by hand of the host that is made. -/
def PX (B g : Nat) (at' : Int) : List (Tmp × (Value → World → Prop)) :=
  [(34, fun v _ => ∃ x y, v = .agg #[.int .i64 at', .int .i64 x, .int .i64 y]),
   (35, fun v w => ∃ b x y, v = .slice (some ⟨b, 0, none⟩) 1 1 ∧ B ≤ b ∧ b ≠ g ∧ w.heap[b]? = some (.cells #[.int .i64 at', .int .i64 x, .int .i64 y] 76 (0, 0)))]
theorem PX.stable {B g : Nat} {at' : Int} : ∀ q ∈ PX B g at', ∀ v w w', q.2 v w → w.grownBy w' (some g) → q.2 v w' := by
  intro q hq v w w' h hg
  simp only [PX, List.mem_cons, List.not_mem_nil, or_false] at hq
  rcases hq with rfl | rfl
  · exact h
  · obtain ⟨b, x, y, h1, h2, h3, h4⟩ := h
    exact ⟨b, x, y, h1, h2, h3, (hg.block b (lt_of_heap h4) (fun e => h3 (by simpa using e))).trans h4⟩
theorem one6 (a b c d e f : Int) : ∀ u ∈ [Value.int .i64 a, .int .i64 b, .int .i64 c, .int .i64 d, .int .i64 e, .int .i64 f], u.oneCell' = true := by
  intro u hu
  simp only [List.mem_cons, List.not_mem_nil, or_false] at hu
  rcases hu with rfl | rfl | rfl | rfl | rfl | rfl <;> rfl
set_option maxHeartbeats 2000000 in
theorem s_l20Pool (g p : Nat) (nn : Int) (w : World) (h : Rd D w g p) (hp : p ≤ 9000) (n1 : -1000 ≤ nn) (n2 : nn ≤ 1000) :
    Calls Try.prog 55 #[.pointer (some ⟨g, 0, none⟩), .int .i64 nn] w (RetP D w g p 120) := by
  have hglt : g < w.heap.size := h.lt
  have hDg : D ≤ g := h.1
  have HR := Lib.hid h
  clear h
  go_enter Try.func55, Try.ntmps55
  go_wp2_with fail
  refine (c_pick g p 6 _ (HR.out.keep (grownBy_alloc _ _ _)) (by omega) (by omega) (by omega)).mono ?_
  rintro e w1 ⟨x, rfl, x0, x1, _, hr1, hg1⟩
  have x1 := x1 (by omega)
  obtain ⟨j0, rfl⟩ := Int.eq_ofNat_of_zero_le x0
  have HR1 := Lib.hid hr1
  have HG1 := Lib.hid (grownBy_tr (grownBy_alloc w (some g) (.cells #[] 76)) hg1)
  have HO1 := Lib.hid (row_kept (row_emp w _ 76 3 rfl (Nat.le_refl _)) hg1 (fun k hk => by simp [Value.ownBlock] at hk; simp; omega))
  clear hr1 hg1
  go_wp2
  go_loopw [5, 6, 7] (fun v t i wr => ∃ (j q b cap : Nat) (hs : List H3) (at' : Int), v = .slice (some ⟨b, 0, none⟩) hs.length cap ∧ i = .int .i64 j ∧ t = .int .i64 at' ∧ 0 ≤ at' ∧ at' ≤ 5 * (hs.length : Int) ∧ hs.length + j ≤ 5 ∧ q ≤ p + 1 + 20 * hs.length ∧
    wr.ownsRow w.heap.size 76 3 (.slice (some ⟨b, 0, none⟩) hs.length cap) hs.length (hcells hs) ∧ Rd D wr g q ∧ w.grownBy wr (some g)) (fun _ _ i _ => (intOf i).toNat)
  case atStart => exact ⟨j0, p + 1, w.heap.size, 0, [], 0, rfl, rfl, rfl, by omega, by simp, by simp; omega, by simp, HO1.out, HR1.out, HG1.out⟩
  case round =>
    obtain ⟨j, q, b, cap, hs, at', rfl, rfl, rfl, a0, a1, hj, hq, hown, hr2, hgr⟩ := hrel
    have HO := Lib.hid hown
    have HR2 := Lib.hid hr2
    have HG := Lib.hid hgr
    obtain ⟨hbl, _⟩ := hown.lt b rfl
    clear hown hgr hr2 HO1 HG1 HR1
    by_cases hlt : 0 < j
    · go_wp2_with fail
      refine (c_pick g q 5 _ HR2.out (by omega) (by omega) (by omega)).mono ?_
      rintro e w3 ⟨x, rfl, y0, y1, _, hr4, hg4⟩
      have y1 := y1 (by omega)
      have HR3 := Lib.hid hr4
      have HG3 := Lib.hid (grownBy_tr HG.out hg4)
      have HO3 := Lib.hid (row_kept HO.out hg4 (fun k hk => by simp [Value.ownBlock] at hk; simp; omega))
      have z3 := HG3.out.size
      clear hr4 hg4
      obtain ⟨A, hA⟩ : ∃ A, at' + x = A := ⟨_, rfl⟩
      have A0 : 0 ≤ A := by omega
      have A1 : A ≤ 5 * (hs.length : Int) + 4 := by omega
      go_wp2_with fail
      clear hA
      refine region_checked_x (D := D) _ 0 false 17 77 g (q + 1) [(0, .rd)] [(0, .rd), (19, .any), (20, .any), (21, .rd), (22, .int 0 4), (23, .int 1 5), (24, .sl [(1, 1), (1, 5)]), (25, .rd), (26, .int 0 1), (27, .pt 1 5), (28, .int 1 5), (29, .sl [(1, 1), (1, 1), (1, 1), (0, 0), (2, 2)]), (30, .rd), (31, .int 0 4), (32, .pt 0 2), (33, .int 0 2), (34, .any), (35, .any)] [19, 20, 21, 22, 23, 24, 25, 26, 27, 28, 29, 30, 31, 32, 33, 34, 35] [(19, 5), (20, 6)] (PX w3.heap.size g A) [34, 35] [15, 16] rfl (by kernel_rfl) rfl PX.stable (fun h => by cases h) ?_ HR3.out (by omega) ?_ ?_
      · intro q hq
        simp only [List.mem_cons, List.not_mem_nil, or_false] at hq
        subst hq
        rfl
      · intro i hi o d hin ho hd k a W hk hdef hfrm hdep hgr hW
        simp only [List.mem_cons, List.not_mem_nil, or_false] at hi
        rcases hi with rfl | rfl
        · injection ho with ho
          subst ho
          injection hd with hd
          subst hd
          have e20 := (hdep 20 (by kernel_rfl)).2.1 6 (by kernel_rfl)
          obtain ⟨x, e28, _, _⟩ := (hdep 28 (by kernel_rfl)).1
          obtain ⟨y, e33, _, _⟩ := (hdep 33 (by kernel_rfl)).1
          refine wp_val2 rfl (run_bH _ _ _ _ _ _ _ _ _ rfl e20 e28 e33) ⟨_, rfl, ⟨trivial, (fun s hs => by cases hs), ?_⟩, grownBy_rfl _ _, let ⟨p', q1, q2⟩ := hW; ⟨p', by omega, q2⟩⟩
          intro q hq e
          simp only [PX, List.mem_cons, List.not_mem_nil, or_false] at hq
          rcases hq with rfl | rfl
          · exact ⟨x, y, rfl⟩
          · cases e
        · injection ho with ho
          subst ho
          injection hd with hd
          subst hd
          obtain ⟨x, y, e34⟩ := (hdep 34 (by kernel_rfl)).2.2 _ List.mem_cons_self rfl
          have hgl : g < W.heap.size := let ⟨_, _, h⟩ := hW; h.lt
          refine wp_val2 rfl (run_bsH _ _ _ _ _ _ _ rfl e34) ⟨_, rfl, ⟨trivial, (fun s hs => by cases hs), ?_⟩, grownBy_alloc _ _ _, let ⟨p', q1, q2⟩ := hW; ⟨p', by omega, q2.keep (grownBy_alloc _ _ _)⟩⟩
          intro q hq e
          simp only [PX, List.mem_cons, List.not_mem_nil, or_false] at hq
          rcases hq with rfl | rfl
          · cases e
          · exact ⟨W.heap.size, x, y, rfl, hgr.size, by omega, heap_alloc_new W _⟩
      · intro f w4 hf hgr ⟨p4, hp4, hr4⟩
        have e19 := (hf 19 (by decide)).2.1 5 (by kernel_rfl)
        obtain ⟨b2, x, y, e35, hB2, hne2, hh2⟩ := (hf 35 (by decide)).2.2 _ (List.mem_cons_of_mem _ List.mem_cons_self) rfl
        have e19 : f 19 = .slice (some ⟨b, 0, none⟩) hs.length cap := e19
        have HR4 := Lib.hid hr4
        have HG4 := Lib.hid (grownBy_tr HG3.out hgr)
        have HO4 := Lib.hid (row_kept HO3.out hgr (fun k hk => by simp [Value.ownBlock] at hk; simp; omega))
        have z4 := HG4.out.size
        have HB4 := Lib.hid (show Box w4 b2 76 [.int .i64 A, .int .i64 x, .int .i64 y] from hh2)
        simp only [List.drop_succ_cons, List.drop_zero, putL, Act.put, List.setIfInBounds_toArray, List.set_cons_succ, List.set_cons_zero, e19, e35]
        clear hf hgr hr4 e19 e35 hh2
        go_wp2_with (at_builtin; refine wpl_app _ rfl elemHost (.tmp 19) (.tmp 35) rfl w.heap.size _ _ _ rfl HO4.out _ 1 1 [.int .i64 A, .int .i64 x, .int .i64 y] rfl rfl (news_of HB4.out) (one3 _ _ _) (by decide) ?c1 ?c2 (hs.length + 1) rfl _ rfl ?c4)
        case c1 => omega
        case c4 =>
          intro b' cap' w5 hown hgrow hat hlt5
          have HR5 := Lib.hid (HR4.out.far (b := b) hgrow (by omega) (by omega))
          have HG5 := Lib.hid (gb_own (b := b) HG4.out hgrow hbl)
          have HO5 := Lib.hid hown
          clear hown hgrow hat
          go_wp2
          go_roundw
          case rel =>
            refine ⟨j - 1, p4, b', cap', hs ++ [(A, x, y)], A + 1, by simp, by go_num, rfl, by omega, by simp; omega, by simp; omega, by simp only [List.length_append, List.length_cons, List.length_nil]; omega, ?_, HR5.out, HG5.out⟩
            rw [hcells_snoc]
            simpa [hcell] using HO5.out
          case measure => simp [intOf]; omega
    · go_wp2_with fail
      refine (c_odd g q nn _ HR2.out (by omega) (by omega) (by omega)).mono ?_
      rintro e w3 ⟨od, rfl, ⟨q2, hq2, hr4⟩, hg4⟩
      have HR3 := Lib.hid hr4
      have HG3 := Lib.hid (grownBy_tr HG.out hg4)
      have HO3 := Lib.hid (row_kept HO.out hg4 (fun k hk => by simp [Value.ownBlock] at hk; simp; omega))
      have z3 := HG3.out.size
      clear hr4 hg4 HR2 HG HO
      cases od
      · go_wp2_with fail
        go_ret
        exact ⟨b, cap, hs, rfl, by omega, HO3.out, ⟨q2, by omega, HR3.out⟩, HG3.out⟩
      · go_wp2_with fail
        refine (c_pick g q2 4 _ HR3.out (by omega) (by omega) (by omega)).mono ?_
        rintro e w4 ⟨x, rfl, y0, y1, _, hr5, hg5⟩
        have y1 := y1 (by omega)
        have HR4 := Lib.hid hr5
        have HG4 := Lib.hid (grownBy_tr HG3.out hg5)
        have HO4 := Lib.hid (row_kept HO3.out hg5 (fun k hk => by simp [Value.ownBlock] at hk; simp; omega))
        have z4 := HG4.out.size
        clear hr5 hg5 HR3 HG3 HO3
        have hx : x = 0 ∨ x = 1 ∨ x = 2 ∨ x = 3 := by omega
        clear y0 y1
        rcases hx with rfl | rfl | rfl | rfl
        · go_wp2_with (
            at_builtin
            refine wpl_app _ rfl elemHost (.tmp 53) (.tmp 55) rfl w.heap.size _ _ _ rfl (HO4.out.alloc _) _ 1 1 [.int .i64 (31 : Int), .int .i64 (1 : Int), .int .i64 (0 : Int)] rfl rfl (news_of (Box.new _ 76 [_, _, _])) (one3 _ _ _) (by decide) (by omega) (by simp; omega) (hs.length + 1) rfl _ rfl ?_
            intro b' cap' w7 hown hgrow hat hlt5
            have HR7 := Lib.hid ((HR4.out.keep (grownBy_alloc _ _ _)).far (b := b) hgrow (by omega) (by omega))
            have HG7 := Lib.hid (gb_own (b := b) (gb_al HG4.out _) hgrow hbl)
            have HO7 := Lib.hid hown
            clear hown hgrow hat)
          go_ret
          refine ⟨b', cap', hs ++ [((31 : Int), (1 : Int), (0 : Int))], by simp, by simp; omega, ?_, ⟨_, ?_, HR7.out⟩, HG7.out⟩
          · rw [hcells_snoc]
            simpa [hcell] using HO7.out
          · omega
        · go_wp2_with fail
          refine (c_pick g (q2 + 1) 2 _ (HR4.out.keep (grownBy_alloc _ _ _)) (by omega) (by omega) (by omega)).mono ?_
          rintro e w5 ⟨t, rfl, t0, t1, _, hr6, hg6⟩
          have t1 := t1 (by omega)
          have hg4' : g < w4.heap.size := HR4.out.lt
          have HR5 := Lib.hid hr6
          have HG5 := Lib.hid (grownBy_tr (gb_al HG4.out (.cells #[.int .i64 0, .int .i64 6] 3)) hg6)
          have HO5 := Lib.hid (row_kept (HO4.out.alloc (.cells #[.int .i64 0, .int .i64 6] 3)) hg6 (fun k hk => by simp [Value.ownBlock] at hk; simp; omega))
          have B5 := Lib.hid ((Box.new w4 3 [.int .i64 0, .int .i64 6]).by hg6 (by omega))
          have z5 := HG5.out.size
          clear hr6 hg6 HR4 HG4 HO4
          have HR4 := HR5
          have HG4 := HG5
          have HO4 := HO5
          have e0 := B5.out.cell 0
          have e1 := B5.out.cell 1
          simp only [List.getElem?_cons_zero, List.getElem?_cons_succ] at e0 e1
          clear HR5 HG5 HO5
          have ht : t = 0 ∨ t = 1 := by omega
          clear t0 t1
          rcases ht with rfl | rfl
          · go_wp2_with (
              at_builtin
              refine wpl_app _ rfl elemHost (.tmp 59) (.tmp 67) rfl w.heap.size _ _ _ rfl (HO4.out.alloc _) _ 1 1 [.int .i64 at', .int .i64 (0 : Int), .int .i64 (0 : Int)] rfl rfl (news_of (Box.new _ 76 [_, _, _])) (one3 _ _ _) (by decide) (by omega) (by simp; omega) (hs.length + 1) rfl _ rfl ?_
              intro b' cap' w7 hown hgrow hat hlt5
              have HR7 := Lib.hid ((HR4.out.keep (grownBy_alloc _ _ _)).far (b := b) hgrow (by omega) (by omega))
              have HG7 := Lib.hid (gb_own (b := b) (gb_al HG4.out _) hgrow hbl)
              have HO7 := Lib.hid hown
              clear hown hgrow hat)
            go_ret
            refine ⟨b', cap', hs ++ [(at', (0 : Int), (0 : Int))], by simp, by simp; omega, ?_, ⟨_, ?_, HR7.out⟩, HG7.out⟩
            · rw [hcells_snoc]
              simpa [hcell] using HO7.out
            · omega
          · go_wp2_with (
              at_builtin
              refine wpl_app _ rfl elemHost (.tmp 59) (.tmp 67) rfl w.heap.size _ _ _ rfl (HO4.out.alloc _) _ 1 1 [.int .i64 at', .int .i64 (6 : Int), .int .i64 (0 : Int)] rfl rfl (news_of (Box.new _ 76 [_, _, _])) (one3 _ _ _) (by decide) (by omega) (by simp; omega) (hs.length + 1) rfl _ rfl ?_
              intro b' cap' w7 hown hgrow hat hlt5
              have HR7 := Lib.hid ((HR4.out.keep (grownBy_alloc _ _ _)).far (b := b) hgrow (by omega) (by omega))
              have HG7 := Lib.hid (gb_own (b := b) (gb_al HG4.out _) hgrow hbl)
              have HO7 := Lib.hid hown
              clear hown hgrow hat)
            go_ret
            refine ⟨b', cap', hs ++ [(at', (6 : Int), (0 : Int))], by simp, by simp; omega, ?_, ⟨_, ?_, HR7.out⟩, HG7.out⟩
            · rw [hcells_snoc]
              simpa [hcell] using HO7.out
            · omega
        · go_wp2_with (
            at_builtin
            refine wpl_app _ rfl elemHost (.tmp 71) (.tmp 74) rfl w.heap.size _ _ _ rfl (HO4.out.alloc _) _ 1 1 [.int .i64 at', .int .i64 (1 : Int), .int .i64 (3 : Int)] rfl rfl (news_of (Box.new _ 76 [_, _, _])) (one3 _ _ _) (by decide) (by omega) (by simp; omega) (hs.length + 1) rfl _ rfl ?_
            intro b' cap' w7 hown hgrow hat hlt5
            have HR7 := Lib.hid ((HR4.out.keep (grownBy_alloc _ _ _)).far (b := b) hgrow (by omega) (by omega))
            have HG7 := Lib.hid (gb_own (b := b) (gb_al HG4.out _) hgrow hbl)
            have HO7 := Lib.hid hown
            clear hown hgrow hat)
          go_ret
          refine ⟨b', cap', hs ++ [(at', (1 : Int), (3 : Int))], by simp, by simp; omega, ?_, ⟨_, ?_, HR7.out⟩, HG7.out⟩
          · rw [hcells_snoc]
            simpa [hcell] using HO7.out
          · omega
        · go_wp2_with (
            at_builtin
            refine wpl_app _ rfl elemHost (.tmp 44) (.tmp 49) rfl w.heap.size _ _ _ rfl (HO4.out.alloc _) _ 2 2 [.int .i64 at', .int .i64 1, .int .i64 0, .int .i64 at', .int .i64 1, .int .i64 0] rfl rfl (news_of (Box.new _ 76 [_, _, _, _, _, _])) (one6 _ _ _ _ _ _) (by decide) (by omega) (by simp; omega) (hs.length + 2) rfl _ rfl ?_
            intro b' cap' w7 hown hgrow hat hlt5
            have HR7 := Lib.hid ((HR4.out.keep (grownBy_alloc _ _ _)).far (b := b) hgrow (by omega) (by omega))
            have HG7 := Lib.hid (gb_own (b := b) (gb_al HG4.out _) hgrow hbl)
            have HO7 := Lib.hid hown
            clear hown hgrow hat)
          go_ret
          refine ⟨b', cap', hs ++ [(at', 1, 0)] ++ [(at', 1, 0)], by simp, by simp; omega, ?_, ⟨_, ?_, HR7.out⟩, HG7.out⟩
          · rw [hcells_snoc, hcells_snoc]
            simpa [hcell] using HO7.out
          · omega
end Go.Proofs.Ytdpmlkigmadajaa
