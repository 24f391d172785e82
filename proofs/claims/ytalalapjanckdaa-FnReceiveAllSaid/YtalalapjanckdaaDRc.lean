/- The draw of a receiver. No condition. -/
import Derived.Test.YtalalapjanckdaaTyX
import Derived.Test.YtalalapjanckdaaRcvL
namespace Go.Proofs.Ytalalapjanckdaa
open Go.RowKit
variable {D : Nat}
theorem run_bs0 (o : Oper) (ρ : Operand → Value) (w : World) (ho : o.op = .buildSlice 50 0 #[]) :
    (execOp ρ o).run Try.prog w = .ok (.value (.slice (some ⟨w.heap.size, 0, none⟩) 0 0)) (w.alloc (.cells #[] 3)) := by
  simp [execOp, ho, go_sem]
theorem run_bR (o : Oper) (ρ : Operand → Value) (w : World) (x0 x1 x2 : Operand) (m0 m1 : Int) (v : Value) (ho : o.op = .build 52 #[(0, x0), (1, x1), (2, x2)]) (h0 : ρ x0 = .int .i64 m0) (h1 : ρ x1 = .int .i64 m1) (b n c : Nat) (hv : v = .slice (some ⟨b, 0, none⟩) n c) (h2 : ρ x2 = v) :
    (execOp ρ o).run Try.prog w = .ok (.value (.agg #[.int .i64 m0, .int .i64 m1, v])) w := by
  subst hv
  simp [execOp, ho, h0, h1, h2, go_sem]
theorem run_alR (o : Oper) (ρ : Operand → Value) (w : World) (ho : o.op = .alloc 52) :
    (execOp ρ o).run Try.prog w = .ok (.value (.pointer (some ⟨w.heap.size, 0, none⟩))) (w.alloc (.cells #[.int .i64 0, .int .i64 0, .slice none 0 0] 52)) := by
  simp [execOp, ho, go_sem]
theorem wp_val2 {Q : Exit → Act → World → Prop} {o : Oper} {d : Tmp} {a : Act} {w w1 : World} {v : Value} {K : Act → World → Prop} (hd : o.dst = some d) (h : (execOp a.eval o).run Try.prog w = .ok (.value v) w1) (hK : K (a.put (some d) v) w1) : Oper.wp Try.prog o a w K Q := by
  unfold Oper.wp
  rw [h]
  have : K (a.put o.dst v) w1 := by rw [hd]; exact hK
  exact this
theorem run_faR (o : Oper) (ρ : Operand → Value) (w : World) (x : Operand) (b : Nat) (hx : ρ x = .pointer (some ⟨b, 0, none⟩)) :
    (o.op = .fieldAddr 52 x 0 → (execOp ρ o).run Try.prog w = .ok (.value (.pointer (some ⟨b, 0, none⟩))) w) ∧ (o.op = .fieldAddr 52 x 1 → (execOp ρ o).run Try.prog w = .ok (.value (.pointer (some ⟨b, 1, none⟩))) w) ∧
    (o.op = .fieldAddr 52 x 2 → (execOp ρ o).run Try.prog w = .ok (.value (.pointer (some ⟨b, 2, none⟩))) w) := by
  refine ⟨fun ho => ?_, fun ho => ?_, fun ho => ?_⟩ <;> simp [execOp, ho, hx, go_sem]
theorem run_ldR (o : Oper) (ρ : Operand → Value) (w : World) (x : Operand) (b i : Nat) (v : Value) (hx : ρ x = .pointer (some ⟨b, i, none⟩)) (hc : w.cell? ⟨b, i, none⟩ = some v) :
    (o.op = .load 3 x → (execOp ρ o).run Try.prog w = .ok (.value v) w) ∧ (o.op = .load 50 x → (execOp ρ o).run Try.prog w = .ok (.value v) w) := by
  refine ⟨fun ho => ?_, fun ho => ?_⟩ <;> simp [execOp, ho, hx, hc, go_sem]
/-- A receiver is drawn; besides the reader nothing that was there has turned. -/
def RetDR (D : Nat) (w : World) (g p m : Nat) (e : Ending) (w' : World) : Prop :=
  ∃ (N R : Int) (b cap : Nat) (xs : List Int), e = .returned (.agg #[.int .i64 N, .int .i64 R, .slice (some ⟨b, 0, none⟩) xs.length cap]) ∧ -1 ≤ N ∧ N ≤ 100001 ∧ 0 ≤ R ∧ R ≤ 11 ∧ xs.length ≤ 12 ∧
    w'.ownsRow w.heap.size 3 1 (.slice (some ⟨b, 0, none⟩) xs.length cap) xs.length (xs.map (Value.int .i64)) ∧ (∃ p', p' ≤ p + m ∧ Rd D w' g p') ∧ w.grownBy w' (some g)
/-- What is said by hand of the receiver that is made. -/
def RX (B g : Nat) : List (Tmp × (Value → World → Prop)) :=
  [(18, fun v w => ∃ b, v = .slice (some ⟨b, 0, none⟩) 0 0 ∧ B ≤ b ∧ b ≠ g ∧ w.heap[b]? = some (.cells #[] 3 (0, 0))),
   (19, fun v w => ∃ (N R : Int) (b : Nat), v = .agg #[.int .i64 N, .int .i64 R, .slice (some ⟨b, 0, none⟩) 0 0] ∧ 0 ≤ N ∧ N ≤ 100000 ∧ 1 ≤ R ∧ R ≤ 10 ∧ B ≤ b ∧ b ≠ g ∧ w.heap[b]? = some (.cells #[] 3 (0, 0))),
   (5, fun v w => ∃ g5, v = .pointer (some ⟨g5, 0, none⟩) ∧ B ≤ g5 ∧ g5 ≠ g ∧ w.heap[g5]? = some (.cells #[.int .i64 0, .int .i64 0, .slice none 0 0] 52 (0, 0)))]
theorem RX.stable {B g : Nat} : ∀ q ∈ RX B g, ∀ v w w', q.2 v w → w.grownBy w' (some g) → q.2 v w' := by
  intro q hq v w w' h hg
  simp only [RX, List.mem_cons, List.not_mem_nil, or_false] at hq
  rcases hq with rfl | rfl | rfl
  · obtain ⟨b, h1, h2, h3, h4⟩ := h
    exact ⟨b, h1, h2, h3, (hg.block b (lt_of_heap h4) (fun e => h3 (by simpa using e))).trans h4⟩
  · obtain ⟨N, R, b, h1, k1, k2, k3, k4, h2, h3, h4⟩ := h
    exact ⟨N, R, b, h1, k1, k2, k3, k4, h2, h3, (hg.block b (lt_of_heap h4) (fun e => h3 (by simpa using e))).trans h4⟩
  · obtain ⟨b, h1, h2, h3, h4⟩ := h
    exact ⟨b, h1, h2, h3, (hg.block b (lt_of_heap h4) (fun e => h3 (by simpa using e))).trans h4⟩
/-- A receiver under construction. -/
structure RcC (D g g5 q : Nat) (w : World) (N R : Int) (xs : List Int) (b cap : Nat) (wr : World) : Prop where
  bx : Box wr g5 52 [.int .i64 N, .int .i64 R, .slice (some ⟨b, 0, none⟩) xs.length cap]
  own : wr.ownsRow (w.heap.size + 1) 3 1 (.slice (some ⟨b, 0, none⟩) xs.length cap) xs.length (xs.map (Value.int .i64))
  b5 : b ≠ g5
  bg : b ≠ g
  res : Box wr w.heap.size 52 [.int .i64 0, .int .i64 0, .slice none 0 0]
  lo : w.heap.size < g5
  g5g : g5 ≠ g
  gw : g < w.heap.size
  rd : Rd D wr g q
  gr : w.grownBy wr (some g)
section
variable {g g5 q : Nat} {w : World} {N R : Int} {xs : List Int} {b cap : Nat} {wr : World}
theorem RcC.blo (h : RcC D g g5 q w N R xs b cap wr) : w.heap.size + 1 ≤ b ∧ b < wr.heap.size := h.own.lt b rfl
theorem RcC.alloc (h : RcC D g g5 q w N R xs b cap wr) (o : Obj) : RcC D g g5 q w N R xs b cap (wr.alloc o) :=
  ⟨h.bx.alloc _, h.own.alloc _, h.b5, h.bg, h.res.alloc _, h.lo, h.g5g, h.gw, h.rd.keep (grownBy_alloc _ _ _), gb_al h.gr _⟩
theorem RcC.by {w' : World} {q' : Nat} (h : RcC D g g5 q w N R xs b cap wr) (hg : wr.grownBy w' (some g)) (hr : Rd D w' g q') : RcC D g g5 q' w N R xs b cap w' :=
  ⟨h.bx.by hg h.g5g, row_kept h.own hg (fun k hk => by simp [Value.ownBlock] at hk; have := h.bg; simp; omega), h.b5, h.bg, h.res.by hg (by have := h.gw; omega), h.lo, h.g5g, h.gw, hr, grownBy_tr h.gr hg⟩
theorem RcC.push {w7 : World} {x : Int} {b7 cap7 : Nat} (h : RcC D g g5 q w N R xs b cap wr) (hown : w7.ownsRow (w.heap.size + 1) 3 1 (.slice (some ⟨b7, 0, none⟩) (xs.length + 1) cap7) (xs.length + 1) (xs.map (Value.int .i64) ++ [.int .i64 x]))
    (hgr : wr.grownBy w7 (some b)) (hat : (Value.slice (some ⟨b, 0, none⟩) xs.length cap).ownBlock = some b7 ∨ b7 = wr.heap.size) :
    RcC D g g5 q w N R (xs ++ [x]) b7 cap7 (w7.setCell ⟨g5, 2, none⟩ (.slice (some ⟨b7, 0, none⟩) (xs.length + 1) cap7)) := by
  obtain ⟨l1, l2⟩ := h.blo
  have h5 := h.bx.lt
  have hg := h.rd.lt
  have hgD := h.rd.1
  have hlo := h.lo
  have hgw := h.gw
  have e5 := h.b5
  have eg := h.bg
  have h7 : b7 = b ∨ b7 = wr.heap.size := hat.imp (fun e => by simpa [Value.ownBlock] using e.symm) id
  have hB : Box w7 g5 52 [.int .i64 N, .int .i64 R, .slice (some ⟨b, 0, none⟩) xs.length cap] := (hgr.block g5 h5 (by simp; omega)).trans h.bx
  have hne : (Value.slice (some ⟨b7, 0, none⟩) (xs.length + 1) cap7).ownBlock ≠ some g5 := by simp [Value.ownBlock]; omega
  refine ⟨?_, ?_, by omega, by omega, ?_, h.lo, h.g5g, h.gw, (h.rd.far (b := b) hgr (by omega) eg).other (by omega) h.g5g _ _, gb_own (gb_own (b := b) h.gr hgr (by omega)) (gb_setp _ ⟨g5, 2, none⟩ _) (by simp; omega)⟩
  · rw [List.length_append]; exact hB.set 2 _
  · rw [List.length_append, List.map_append]; exact row_set hown _ _ hne
  · have h9 : Box w7 w.heap.size 52 [.int .i64 0, .int .i64 0, .slice none 0 0] := (hgr.block w.heap.size h.res.lt (by simp; omega)).trans h.res
    exact h9.other (by simp; omega) _
theorem RcC.set (h : RcC D g g5 q w N R xs b cap wr) (x : Int) :
    RcC D g g5 q w x R xs b cap (wr.setCell ⟨g5, 0, none⟩ (.int .i64 x)) ∧ RcC D g g5 q w N x xs b cap (wr.setCell ⟨g5, 1, none⟩ (.int .i64 x)) := by
  have hne : (Value.slice (some ⟨b, 0, none⟩) xs.length cap).ownBlock ≠ some g5 := by have := h.b5; simp [Value.ownBlock]; omega
  have hlo := h.lo
  have hgD := h.rd.1
  have hgw := h.gw
  exact ⟨⟨h.bx.set 0 _, row_set h.own _ _ hne, h.b5, h.bg, h.res.other (by simp; omega) _, h.lo, h.g5g, h.gw, h.rd.other (by omega) h.g5g _ _, gb_own h.gr (gb_setp _ ⟨g5, 0, none⟩ _) (by simp; omega)⟩,
    ⟨h.bx.set 1 _, row_set h.own _ _ hne, h.b5, h.bg, h.res.other (by simp; omega) _, h.lo, h.g5g, h.gw, h.rd.other (by omega) h.g5g _ _, gb_own h.gr (gb_setp _ ⟨g5, 1, none⟩ _) (by simp; omega)⟩⟩
end
def RcL (D g g5 p : Nat) (w : World) (N R : Int) (v : Value) (wr : World) : Prop :=
  ∃ (k q : Nat) (xs : List Int) (b cap : Nat), v = .int .i64 (k : Int) ∧ 1 ≤ k ∧ (k : Int) ≤ R ∧ xs.length + 1 ≤ k ∧ q ≤ p + k ∧ RcC D g g5 q w N R xs b cap wr
def RcE (D g g5 p : Nat) (w : World) (wr : World) : Prop :=
  ∃ (q : Nat) (N R : Int) (xs : List Int) (b cap : Nat), -1 ≤ N ∧ N ≤ 100001 ∧ 0 ≤ R ∧ R ≤ 11 ∧ xs.length ≤ 12 ∧ q ≤ p ∧ RcC D g g5 q w N R xs b cap wr
/-- What is said by hand of the number that is put in. -/
def SX (N R : Int) (xs : List Int) (b cap g5 : Nat) : List (Tmp × (Value → World → Prop)) :=
  [(59, fun v _ => v = .pointer (some ⟨g5, 2, none⟩)), (60, fun v _ => v = .slice (some ⟨b, 0, none⟩) xs.length cap), (61, fun v _ => v = .pointer (some ⟨g5, 0, none⟩)), (62, fun v _ => v = .int .i64 N), (63, fun v _ => v = .pointer (some ⟨g5, 1, none⟩)), (64, fun v _ => v = .int .i64 R)]
theorem SX.stable {N R : Int} {xs : List Int} {b cap g5 g : Nat} : ∀ q ∈ SX N R xs b cap g5, ∀ v w w', q.2 v w → w.grownBy w' (some g) → q.2 v w' := by
  intro q hq v w w' h hg
  simp only [SX, List.mem_cons, List.not_mem_nil, or_false] at hq
  rcases hq with rfl | rfl | rfl | rfl | rfl | rfl <;> exact h
set_option maxHeartbeats 4000000 in
set_option maxRecDepth 100000 in
theorem s_l20Receiver (g p : Nat) (nn : Int) (w : World) (h : Rd D w g p) (hp : p ≤ 9000) (n1 : -1000 ≤ nn) (n2 : nn ≤ 1000) :
    Calls Try.prog 64 #[.pointer (some ⟨g, 0, none⟩), .int .i64 nn] w (RetDR D w g p 60) := by
  have hglt : g < w.heap.size := h.lt
  have hDg : D ≤ g := h.1
  obtain ⟨W, hW, hB, hz, h0⟩ : ∃ W, W = w.alloc (.cells #[.int .i64 0, .int .i64 0, .slice none 0 0] 52) ∧ Below w.heap.size w W ∧ W.heap.size = w.heap.size + 1 ∧ Box W w.heap.size 52 [.int .i64 0, .int .i64 0, .slice none 0 0] := head1 w 52 _
  have HW := Lib.hid hW
  have HR := Lib.hid (h.keep (below_grown hB))
  have HG := Lib.hid (gb_none (grownBy_rfl w (some g)) (below_grown hB))
  have HZ := Lib.hid hz
  have HQ := Lib.hid h0
  have hz1 : w.heap.size + 1 ≤ W.heap.size := by omega
  have hz2 : W.heap.size ≤ w.heap.size + 1 := by omega
  clear h hW hB hz h0
  go_enter Try.func64, Try.ntmps64
  go_wp2_with fail
  rw [← HW.out]
  refine region_checked_x (D := D) _ 0 false 14 75 g p [(0, .rd)] [(0, .rd), (7, .rd), (8, .int 0 255), (9, .sl [(0, 255), (100000, 100000)]), (10, .rd), (11, .int 0 11), (12, .int 0 1), (13, .pt 0 100000), (14, .int 0 100000), (15, .rd), (16, .int 0 9), (17, .int 1 10), (18, .any), (19, .any), (5, .any)] [7, 8, 9, 10, 11, 12, 13, 14, 15, 16, 17, 18, 19, 5] [] (RX W.heap.size g) [18, 19, 5] [11, 12, 13] rfl (by kernel_rfl) rfl RX.stable (fun h => by cases h) ?_ HR.out (by omega) ?_ ?_
  · intro q hq
    simp only [List.mem_cons, List.not_mem_nil, or_false] at hq
    subst hq
    rfl
  · intro i hi o d hin ho hd k a W' hk hdef hfrm hdep hgr hW
    have hgl : g < W'.heap.size := let ⟨_, _, h⟩ := hW; h.lt
    have hgg : W.heap.size ≤ W'.heap.size := hgr.size
    simp only [List.mem_cons, List.not_mem_nil, or_false] at hi
    rcases hi with rfl | rfl | rfl
    · injection ho with ho
      subst ho
      injection hd with hd
      subst hd
      refine wp_val2 rfl (run_bs0 _ _ _ rfl) ⟨_, rfl, ⟨trivial, (fun s hs => by cases hs), ?_⟩, grownBy_alloc _ _ _, let ⟨p', q1, q2⟩ := hW; ⟨p', by omega, q2.keep (grownBy_alloc _ _ _)⟩⟩
      intro q hq e
      simp only [RX, List.mem_cons, List.not_mem_nil, or_false] at hq
      rcases hq with rfl | rfl | rfl
      · exact ⟨W'.heap.size, rfl, hgg, by omega, heap_alloc_new W' _⟩
      · cases e
      · cases e
    · injection ho with ho
      subst ho
      injection hd with hd
      subst hd
      obtain ⟨x, e14, x1, x2⟩ := (hdep 14 (by kernel_rfl)).1
      obtain ⟨y, e17, y1, y2⟩ := (hdep 17 (by kernel_rfl)).1
      obtain ⟨b, e18, b1, b2, b3⟩ := (hdep 18 (by kernel_rfl)).2.2 _ List.mem_cons_self rfl
      refine wp_val2 rfl (run_bR _ _ _ _ _ _ _ _ _ rfl e14 e17 _ _ _ e18 rfl) ⟨_, rfl, ⟨trivial, (fun s hs => by cases hs), ?_⟩, grownBy_rfl _ _, let ⟨p', q1, q2⟩ := hW; ⟨p', by omega, q2⟩⟩
      intro q hq e
      simp only [RX, List.mem_cons, List.not_mem_nil, or_false] at hq
      rcases hq with rfl | rfl | rfl
      · cases e
      · exact ⟨x, y, b, by rw [← e18], x1, x2, y1, y2, b1, b2, b3⟩
      · cases e
    · injection ho with ho
      subst ho
      injection hd with hd
      subst hd
      refine wp_val2 rfl (run_alR _ _ _ rfl) ⟨_, rfl, ⟨trivial, (fun s hs => by cases hs), ?_⟩, grownBy_alloc _ _ _, let ⟨p', q1, q2⟩ := hW; ⟨p', by omega, q2.keep (grownBy_alloc _ _ _)⟩⟩
      intro q hq e
      simp only [RX, List.mem_cons, List.not_mem_nil, or_false] at hq
      rcases hq with rfl | rfl | rfl
      · cases e
      · cases e
      · exact ⟨W'.heap.size, rfl, hgg, by omega, heap_alloc_new W' _⟩
  · intro f w4 hf hgr ⟨p4, hp4, hr4⟩
    obtain ⟨N, R, b, e19, N1, N2, R1, R2, hb1, hb2, hb3⟩ := (hf 19 (by decide)).2.2 _ (List.mem_cons_of_mem _ List.mem_cons_self) rfl
    obtain ⟨g5, e5, hg1, hg2, hg3⟩ := (hf 5 (by decide)).2.2 _ (List.mem_cons_of_mem _ (List.mem_cons_of_mem _ List.mem_cons_self)) rfl
    simp only [List.drop_succ_cons, List.drop_zero, putL, Act.put, List.setIfInBounds_toArray, List.set_cons_succ, List.set_cons_zero, e5, e19]
    have B5 : Box w4 g5 52 [.int .i64 0, .int .i64 0, .slice none 0 0] := hg3
    have hbg : b ≠ g5 := fun e => by subst e; rw [hb3] at hg3; injection hg3 with hg3; injection hg3 with h1 _ _; exact absurd (congrArg Array.size h1) (by decide)
    have hgr' : w.grownBy w4 (some g) := grownBy_tr HG.out hgr
    have O5 : w4.ownsRow (w.heap.size + 1) 3 1 (.slice (some ⟨b, 0, none⟩) 0 0) 0 [] := ⟨by simp, .inr ⟨b, 0, #[], rfl, by omega, hb3, Nat.le_refl _, by unfold maxLen; omega, by simp, by simp⟩⟩
    have hne : (Value.slice (some ⟨b, 0, none⟩) 0 0).ownBlock ≠ some g5 := by simp [Value.ownBlock]; exact hbg
    have z4 : W.heap.size ≤ w4.heap.size := hgr.size
    obtain ⟨w5, hw5⟩ : ∃ W, W = ((w4.setCell ⟨g5, 0, none⟩ (.int .i64 N)).setCell ⟨g5, 1, none⟩ (.int .i64 R)).setCell ⟨g5, 2, none⟩ (.slice (some ⟨b, 0, none⟩) 0 0) := ⟨_, rfl⟩
    have KB : Hid (RcC D g g5 p4 w N R [] b 0 w5) := Lib.hid (by
      rw [hw5]
      refine ⟨((B5.set 0 _).set 1 _).set 2 _, row_set (row_set (row_set O5 _ _ hne) _ _ hne) _ _ hne, hbg, hb2, ?_, by omega, hg2, hglt, ((hr4.other (by omega) hg2 _ _).other (by omega) hg2 _ _).other (by omega) hg2 _ _, ?_⟩
      · exact (((HQ.out.by hgr (by omega)).other (by simp; omega) _).other (by simp; omega) _).other (by simp; omega) _
      · exact gb_own (gb_own (gb_own hgr' (gb_setp _ ⟨g5, 0, none⟩ _) (by simp; omega)) (gb_setp _ ⟨g5, 1, none⟩ _) (by simp; omega)) (gb_setp _ ⟨g5, 2, none⟩ _) (by simp; omega))
    have HW5 := Lib.hid hw5
    obtain ⟨x0, x1, x2, fx⟩ := B5.three
    clear hf hgr hr4 hgr' O5 hne hw5 B5 hg3 hb3 e5 e19
    go_upto_region 3 with fail
    rw [← HW5.out]
    clear x0 x1 x2 fx HW HW5 HQ HR HG HZ
    have hp4' : p4 ≤ p + 14 := hp4
    go_loopw [6] (fun v wr => RcL D g g5 p4 w N R v wr) (fun v _ => R.toNat - (intOf v).toNat)
    case atStart => exact ⟨1, p4, [], b, 0, rfl, Nat.le_refl _, by omega, by simp, by omega, KB.out⟩
    case round =>
      obtain ⟨k, q, xs, b', cap, rfl, hk1, hkR, hxk, hqk, hC⟩ := hrel
      have HC := Lib.hid hC
      have hgl := hC.rd.lt
      obtain ⟨hbl, hbl2⟩ := hC.blo
      have h5l := hC.bx.lt
      obtain ⟨x0, x1, x2, fx⟩ := hC.bx.three
      clear hC KB
      by_cases hlt : (k : Int) < R
      · go_wp2_with fail
        refine (c_pick g q 3 _ HC.out.rd (by omega) (by omega) (by omega)).mono ?_
        rintro e w6 ⟨x, rfl, y0, y1, _, hr6, hg6⟩
        have y1 := y1 (by omega)
        have z6 := hg6.size
        have HC6 := Lib.hid (HC.out.by hg6 hr6)
        clear hr6 hg6 x0 x1 x2 fx
        obtain ⟨x0, x1, x2, fx⟩ := HC6.out.bx.three
        by_cases hx : x = 0
        · subst hx
          clear y0 y1
          go_wp2_with (at_builtin; refine wpl_app _ rfl elemI (.tmp 30) (.tmp 35) rfl (w.heap.size + 1) _ xs.length _ rfl (HC6.out.alloc _).own ⟨w6.heap.size, 0, none⟩ 1 1 [.int .i64 (N + (k : Int))] rfl rfl (news_of (Box.new2 _ 3 [_] _ rfl)) (one1 rfl) (by decide) ?c1 ?c2 (xs.length + 1) rfl (xs.map (Value.int .i64) ++ [.int .i64 (N + (k : Int))]) rfl ?c4)
          case c1 => omega
          case c2 => simp; omega
          case c4 =>
            intro b7 cap7 w7 hown hgrow hat hlt7
            have HC7 := Lib.hid ((HC6.out.alloc _).push hown hgrow (by rw [World.size_alloc]; exact hat))
            have B7 : Box w7 g5 52 [.int .i64 N, .int .i64 R, .slice (some ⟨b', 0, none⟩) xs.length cap] := (hgrow.block g5 (by simp; omega) (by have := HC.out.b5; simp [Value.ownBlock]; omega)).trans (HC6.out.alloc _).bx
            obtain ⟨x0, x1, x2, fx⟩ := B7.three
            clear hown hgrow hat B7
            go_wp2
            go_roundw
            case rel => exact ⟨k + 1, q + 1, xs ++ [N + (k : Int)], b7, cap7, by go_num, by omega, by omega, by simp; omega, by omega, HC7.out⟩
            case measure => simp [intOf]; omega
        · have hxb : (x == 0) = false := beq_eq_false_iff_ne.2 hx
          go_wp2
          go_roundw
          case rel => exact ⟨k + 1, q + 1, xs, b', cap, by go_num, by omega, by omega, by omega, by omega, HC6.out⟩
          case measure => simp [intOf]; omega
      · obtain rfl : (k : Int) = R := by omega
        go_wp2_with fail
        refine (c_odd g q nn _ HC.out.rd (by omega) (by omega) (by omega)).mono ?_
        rintro e w6 ⟨od, rfl, ⟨q2, hq2, hr6⟩, hg6⟩
        have z6 := hg6.size
        have HC6 := Lib.hid (HC.out.by hg6 hr6)
        clear hr6 hg6 x0 x1 x2 fx
        go_upto_if 40 with fail
        go_cut [6] (fun s wx => s = .int .i64 (k : Int) ∧ RcE D g g5 (p + 50) w wx)
        case first =>
          obtain ⟨x0, x1, x2, fx⟩ := HC6.out.bx.three
          cases od
          · go_wp2_with fail
            go_meet
            exact ⟨rfl, q2, N, (k : Int), xs, b', cap, by omega, by omega, by omega, by omega, by omega, by omega, HC6.out⟩
          · go_wp2_with fail
            refine (c_pick g q2 3 _ HC6.out.rd (by omega) (by omega) (by omega)).mono ?_
            rintro e w7 ⟨x, rfl, y0, y1, _, hr7, hg7⟩
            have y1 := y1 (by omega)
            have z7 := hg7.size
            have HC7 := Lib.hid (HC6.out.by hg7 hr7)
            clear hr7 hg7 x0 x1 x2 fx
            have hx : x = 0 ∨ x = 1 ∨ x = 2 := by omega
            clear y0 y1
            rcases hx with rfl | rfl | rfl
            · go_wp2_with fail
              refine (c_pick g _ 2 _ (HC7.out.alloc _).rd (by omega) (by omega) (by omega)).mono ?_
              rintro e w8 ⟨t, rfl, t0, t1, _, hr8, hg8⟩
              have t1 := t1 (by omega)
              have HC8 := Lib.hid ((HC7.out.alloc _).by hg8 hr8)
              have B8 := (Box.new2 w7 3 [.int .i64 (-1), .int .i64 100001] w7.heap.size rfl).by hg8 (by omega)
              obtain ⟨x0, x1, x2, fx⟩ := HC8.out.bx.three
              have e0 := B8.cell 0
              have e1 := B8.cell 1
              simp only [List.getElem?_cons_zero, List.getElem?_cons_succ] at e0 e1
              clear hr8 hg8 B8
              have ht : t = 0 ∨ t = 1 := by omega
              clear t0 t1
              rcases ht with rfl | rfl
              all_goals
                go_wp2_with fail
                go_meet
                exact ⟨rfl, _, _, _, xs, b', cap, by omega, by omega, by omega, by omega, by omega, by omega, (HC8.out.set _).1⟩
            · obtain ⟨x0, x1, x2, fx⟩ := HC7.out.bx.three
              have HC7' := HC7.out
              have zg := HC7'.rd.lt
              clear HC7'
              go_upto_region 13 with fail
              refine region_checked_x (D := D) _ 0 false 13 75 g _ [(0, .rd)] [(0, .rd), (59, .any), (60, .any), (61, .any), (62, .int 0 100000), (63, .any), (64, .int 1 10), (65, .sl [(0, 0), (1, 10)]), (66, .rd), (67, .int 0 1), (68, .pt 0 10), (69, .int 0 10), (70, .int 0 100010), (71, .sl [(0, 100010)])] [59, 60, 61, 62, 63, 64, 65, 66, 67, 68, 69, 70, 71] [] (SX N (k : Int) xs b' cap g5) [59, 60, 61, 62, 63, 64] [0, 1, 2, 3, 4, 5] rfl (by kernel_rfl) rfl SX.stable (fun h => by cases h) ?_ HC7.out.rd (by omega) ?_ ?_
              · intro q hq
                simp only [List.mem_cons, List.not_mem_nil, or_false] at hq
                subst hq
                rfl
              · intro i hi o d hin ho hd k' a W' hk' hdef hfrm hdep hgr hW
                have hg9 := hgr
                obtain ⟨q9, hq9, hr9⟩ := hW
                have hC9 := HC7.out.by hg9 hr9
                obtain ⟨c0, c1, c2, -⟩ := hC9.bx.three
                have e5 : a.tmps.getD 5 undef = .pointer (some ⟨g5, 0, none⟩) := (hfrm 5 (by kernel_rfl)).trans rfl
                have hD9 : ∃ p', p' ≤ q2 + 1 + (k' + 1) ∧ Rd D W' g p' := ⟨q9, by omega, hr9⟩
                simp only [List.mem_cons, List.not_mem_nil, or_false] at hi
                rcases hi with rfl | rfl | rfl | rfl | rfl | rfl
                all_goals
                  injection ho with ho
                  subst ho
                  injection hd with hd
                  subst hd
                · refine wp_val2 rfl ((run_faR _ _ _ _ g5 e5).2.2 rfl) ⟨_, rfl, ⟨trivial, (fun s hs => by cases hs), ?_⟩, grownBy_rfl _ _, hD9⟩
                  intro q hq e
                  simp only [SX, List.mem_cons, List.not_mem_nil, or_false] at hq
                  rcases hq with rfl | rfl | rfl | rfl | rfl | rfl <;> first | rfl | cases e
                · have e59 := (hdep 59 (by kernel_rfl)).2.2 _ List.mem_cons_self rfl
                  refine wp_val2 rfl ((run_ldR _ _ _ _ g5 2 _ e59 c2).2 rfl) ⟨_, rfl, ⟨trivial, (fun s hs => by cases hs), ?_⟩, grownBy_rfl _ _, hD9⟩
                  intro q hq e
                  simp only [SX, List.mem_cons, List.not_mem_nil, or_false] at hq
                  rcases hq with rfl | rfl | rfl | rfl | rfl | rfl <;> first | rfl | cases e
                · refine wp_val2 rfl ((run_faR _ _ _ _ g5 e5).1 rfl) ⟨_, rfl, ⟨trivial, (fun s hs => by cases hs), ?_⟩, grownBy_rfl _ _, hD9⟩
                  intro q hq e
                  simp only [SX, List.mem_cons, List.not_mem_nil, or_false] at hq
                  rcases hq with rfl | rfl | rfl | rfl | rfl | rfl <;> first | rfl | cases e
                · have e61 := (hdep 61 (by kernel_rfl)).2.2 _ (List.mem_cons_of_mem _ (List.mem_cons_of_mem _ List.mem_cons_self)) rfl
                  refine wp_val2 rfl ((run_ldR _ _ _ _ g5 0 _ e61 c0).1 rfl) ⟨_, rfl, ⟨⟨N, rfl, N1, N2⟩, (fun s hs => by cases hs), ?_⟩, grownBy_rfl _ _, hD9⟩
                  intro q hq e
                  simp only [SX, List.mem_cons, List.not_mem_nil, or_false] at hq
                  rcases hq with rfl | rfl | rfl | rfl | rfl | rfl <;> first | rfl | cases e
                · refine wp_val2 rfl ((run_faR _ _ _ _ g5 e5).2.1 rfl) ⟨_, rfl, ⟨trivial, (fun s hs => by cases hs), ?_⟩, grownBy_rfl _ _, hD9⟩
                  intro q hq e
                  simp only [SX, List.mem_cons, List.not_mem_nil, or_false] at hq
                  rcases hq with rfl | rfl | rfl | rfl | rfl | rfl <;> first | rfl | cases e
                · have e63 := (hdep 63 (by kernel_rfl)).2.2 _ (List.mem_cons_of_mem _ (List.mem_cons_of_mem _ (List.mem_cons_of_mem _ (List.mem_cons_of_mem _ List.mem_cons_self)))) rfl
                  refine wp_val2 rfl ((run_ldR _ _ _ _ g5 1 _ e63 c1).1 rfl) ⟨_, rfl, ⟨⟨(k : Int), rfl, by omega, by omega⟩, (fun s hs => by cases hs), ?_⟩, grownBy_rfl _ _, hD9⟩
                  intro q hq e
                  simp only [SX, List.mem_cons, List.not_mem_nil, or_false] at hq
                  rcases hq with rfl | rfl | rfl | rfl | rfl | rfl <;> first | rfl | cases e
              · intro f w8 hf hgr ⟨p8, hp8, hr8⟩
                have e60 : f 60 = .slice (some ⟨b', 0, none⟩) xs.length cap := (hf 60 (by decide)).2.2 _ (List.mem_cons_of_mem _ List.mem_cons_self) rfl
                obtain ⟨b2, ys, e71, hb21, hb22, hb23, hbd⟩ := (hf 71 (by decide)).1
                obtain ⟨y, rfl⟩ : ∃ y, ys = [y] := by
                  have := hbd.len
                  match ys, this with
                  | [y], _ => exact ⟨y, rfl⟩
                have e71' : f 71 = .slice (some ⟨b2, 0, none⟩) 1 1 := e71
                have HC8 := Lib.hid (HC7.out.by hgr hr8)
                have BN := Lib.hid (show Box w8 b2 3 [.int .i64 y] from hb23)
                obtain ⟨l1, l2⟩ := HC8.out.blo
                have h58 := HC8.out.bx.lt
                have z8 : w7.heap.size ≤ w8.heap.size := hgr.size
                simp only [List.drop_succ_cons, List.drop_zero, putL, Act.put, List.setIfInBounds_toArray, List.set_cons_succ, List.set_cons_zero, e60, e71']
                clear hf hgr hr8 e60 e71 e71' hb23 hbd x0 x1 x2 fx
                go_wp2_with (at_builtin; refine wpl_app _ rfl elemI (.tmp 60) (.tmp 71) rfl (w.heap.size + 1) _ xs.length _ rfl HC8.out.own ⟨b2, 0, none⟩ 1 1 [.int .i64 y] rfl rfl (news_of BN.out) (one1 rfl) (by decide) ?c1 ?c2 (xs.length + 1) rfl (xs.map (Value.int .i64) ++ [.int .i64 y]) rfl ?c4)
                case c1 => omega
                case c2 => omega
                case c4 =>
                  intro b7 cap7 w9 hown hgrow hat hlt7
                  have HC9 := Lib.hid (HC8.out.push hown hgrow hat)
                  have B9 : Box w9 g5 52 [.int .i64 N, .int .i64 (k : Int), .slice (some ⟨b', 0, none⟩) xs.length cap] := (hgrow.block g5 h58 (by have := HC8.out.b5; simp [Value.ownBlock]; omega)).trans HC8.out.bx
                  obtain ⟨x0, x1, x2, fx⟩ := B9.three
                  clear hown hgrow hat B9
                  go_wp2
                  go_meet
                  exact ⟨rfl, p8, N, (k : Int), xs ++ [y], b7, cap7, by omega, by omega, by omega, by omega, by simp; omega, by omega, HC9.out⟩
            · go_wp2_with fail
              refine (c_pick g _ 2 _ (HC7.out.alloc _).rd (by omega) (by omega) (by omega)).mono ?_
              rintro e w8 ⟨t, rfl, t0, t1, _, hr8, hg8⟩
              have t1 := t1 (by omega)
              have HC8 := Lib.hid ((HC7.out.alloc _).by hg8 hr8)
              have B8 := (Box.new2 w7 3 [.int .i64 0, .int .i64 11] w7.heap.size rfl).by hg8 (by omega)
              obtain ⟨x0, x1, x2, fx⟩ := HC8.out.bx.three
              have e0 := B8.cell 0
              have e1 := B8.cell 1
              simp only [List.getElem?_cons_zero, List.getElem?_cons_succ] at e0 e1
              clear hr8 hg8 B8
              have ht : t = 0 ∨ t = 1 := by omega
              clear t0 t1
              rcases ht with rfl | rfl
              all_goals
                go_wp2_with fail
                go_meet
                exact ⟨rfl, _, _, _, xs, b', cap, by omega, by omega, by omega, by omega, by omega, by omega, (HC8.out.set _).2⟩
        case rest =>
          obtain ⟨rfl, q3, N', R', xs', b3, cap3, e1, e2, e3, e4, e5, e6, hC⟩ := hcut
          obtain ⟨wz, rfl⟩ : ∃ wo : World, wo = wc := ⟨_, rfl⟩
          obtain ⟨x0, x1, x2, fx⟩ := hC.bx.three
          obtain ⟨y0, y1, y2, fy⟩ := hC.res.three
          have HCz := Lib.hid hC
          clear hC
          go_wp2
          have hC := HCz.out
          obtain ⟨l1, l2⟩ := hC.blo
          have hgw := hC.gw
          have hgD := hC.rd.1
          have hne : (Value.slice (some ⟨b3, 0, none⟩) xs'.length cap3).ownBlock ≠ some w.heap.size := by simp [Value.ownBlock]; omega
          refine bodyPost_ret (v := .agg #[.int .i64 N', .int .i64 R', .slice (some ⟨b3, 0, none⟩) xs'.length cap3]) (by simp [results, Try.results64, go_sem, y0, y1, y2]) rfl ?_
          refine ⟨N', R', b3, cap3, xs', rfl, e1, e2, e3, e4, e5, row_wider (row_set (row_set (row_set hC.own _ _ hne) _ _ hne) _ _ hne) (by omega), ⟨q3, by omega, ((hC.rd.other (by omega) (by omega) _ _).other (by omega) (by omega) _ _).other (by omega) (by omega) _ _⟩, ?_⟩
          exact gb_own (gb_own (gb_own hC.gr (gb_setp _ ⟨w.heap.size, 0, none⟩ _) (by simp)) (gb_setp _ ⟨w.heap.size, 1, none⟩ _) (by simp)) (gb_setp _ ⟨w.heap.size, 2, none⟩ _) (by simp)
end Go.Proofs.Ytalalapjanckdaa
