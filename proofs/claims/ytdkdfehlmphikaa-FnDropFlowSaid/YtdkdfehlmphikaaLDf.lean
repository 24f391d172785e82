/- The walk of the law DropFlow: it answers true whatever bytes come in. No condition. -/
import Derived.Test.YtdkdfehlmphikaaDFn
import Derived.Test.YtdkdfehlmphikaaVer
import Derived.Test.YtdkdfehlmphikaaMG
namespace Go.Proofs.Ytdkdfehlmphikaa
open Go.RowKit
set_option maxHeartbeats 4000000 in
set_option maxRecDepth 100000 in
theorem walkDropFlow (a : Option Addr) (len cap : Nat) (z : List Int) (w : World) (w0 : IsRow .u8 w a len cap z) :
    Calls Try.prog 8 #[.slice a len cap] w fun e w' => e = .returned (.bool true) ∧ Below w.heap.size w w' := by
  obtain ⟨hcl, hcap⟩ := w0.caps
  have HC := Lib.hid w0.code
  clear w0
  have hm := hcap
  unfold maxLen at hm
  by_cases hbig : (1048576 : Int) < (len : Int)
  · go_enter Try.func8, Try.ntmps8
    go_wp2
    go_ret
    exact ⟨rfl, Below.refl _ _⟩
  go_enter Try.func8, Try.ntmps8
  go_wp2_with fail
  refine (s_DrawDropFlow a len cap w hcl hcap HC.out).mono ?_
  rintro e w1 ⟨N, R, b, c1, es, f, rfl, hx, hcp, hnn, -, hI, hb⟩
  obtain ⟨n, hn⟩ : ∃ n, es.length = n := ⟨_, rfl⟩
  rw [hn] at hx hcp hnn ⊢
  obtain ⟨y0, y1, y2, y3, y4⟩ := f
  unfold fvv
  have HN := Lib.hid hn
  have HNN := Lib.hid hnn
  clear hnn
  have z1 := hb.size
  have D1 := Lib.hid (hb)
  have I1 := Lib.hid (hI)
  clear hb hI
  obtain ⟨w2, hw2, b2, sz2, x2_0, x2_1⟩ := headB w1 30 37 [.int .i64 N, .int .i64 R, .slice b n c1] [.int .i64 y0, .int .i64 y1, .int .i64 y2, .int .i64 y3, .int .i64 y4]
  have HW2 := Lib.hid hw2
  have z2 := (b2).size
  have D2 := Lib.hid (Below.step D1.out b2 (by omega))
  have I2 := Lib.hid (I1.out.below b2)
  clear D1 I1
  have T2 := Lib.hid (x2_0)
  have Fb2 := Lib.hid (x2_1)
  clear hw2 b2 x2_0 x2_1
  obtain ⟨⟨d1, d2, d3⟩, hd⟩ : ∃ d, dropT (N, R, es) (y0, y1, y2, y3, y4) = d := ⟨_, rfl⟩
  have HDR := Lib.hid hd
  have hn20 : n ≤ 1048576 := by omega
  have HDL : Hid (d3.length ≤ 1048576) := Lib.hid (by have := drop_le hd; omega)
  clear hn hd
  go_wp2_with fail
  rw [← HW2.out]
  refine (c_Drop_r HDR.out b n c1 _ HN.out hn20 I2.out HNN.out).mono ?_
  rintro e w3 ⟨a3, c3, rfl, o3, g3⟩
  have b3 := grown_below g3
  have z3 := (b3).size
  have D3 := Lib.hid (Below.step D2.out b3 (by omega))
  have I3 := Lib.hid (I2.out.below b3)
  have T3 := Lib.hid (T2.out.keep b3)
  have Fb3 := Lib.hid (Fb2.out.keep b3)
  clear D2 I2 T2 Fb2
  have X3 := Lib.hid (EntRow.ents o3)
  have Xc := (row_cap o3).1
  have Xz := Lib.hid (own_none o3)
  clear b3 g3 o3
  obtain ⟨w4, hw4, b4, sz4, x4_0⟩ := head1 w3 30 [.int .i64 d1, .int .i64 d2, .slice a3 d3.length c3]
  have HW4 := Lib.hid hw4
  have z4 := (b4).size
  have D4 := Lib.hid (Below.step D3.out b4 (by omega))
  have I4 := Lib.hid (I3.out.below b4)
  have T4 := Lib.hid (T3.out.keep b4)
  have Fb4 := Lib.hid (Fb3.out.keep b4)
  have X4 := Lib.hid (X3.out.below b4)
  clear D3 I3 T3 Fb3 X3
  have B4 := Lib.hid (x4_0)
  clear hw4 b4 x4_0
  go_upto_region 5 with fail
  rw [← HW4.out]
  refine region_anyW _ 5 80 [18, 19, 20, 21, 22] [(18, .val (.agg #[.int .i64 d1, .int .i64 d2, .slice a3 d3.length c3])), (19, .val (.agg #[.int .i64 N, .int .i64 R, .slice b n c1])), (20, .val (.agg #[.int .i64 y0, .int .i64 y1, .int .i64 y2, .int .i64 y3, .int .i64 y4])), (21, .row w4.heap.size 69 7 (d3.length) (eCells d3) (fun s => .agg #[.int .i64 d1, .int .i64 d2, s])), (22, .val (.bool true))] rfl (by kernel_rfl) ?_ ?_
  · refine ⟨?_, ?_, ?_, ?_, ?_, trivial⟩
    · refine opW_free rfl rfl (op_val (d := 18) rfl (.agg #[.int .i64 d1, .int .i64 d2, .slice a3 d3.length c3]) (fun fr9 wq hf hd hb => ⟨?_, ?_⟩) _)
      rotate_left
      · exact rfl
      have e5 : fr9.tmps.getD 5 undef = .pointer (some ⟨w3.heap.size, 0, none⟩) := hf 5 (by kernel_rfl)
      have hb9 := B4.out.keep hb
      have q0 : wq.cell? ⟨w3.heap.size, 0, none⟩ = some (.int .i64 d1) := hb9.cell 0
      have q1 : wq.cell? ⟨w3.heap.size, 1, none⟩ = some (.int .i64 d2) := hb9.cell 1
      have q2 : wq.cell? ⟨w3.heap.size, 2, none⟩ = some (.slice a3 d3.length c3) := hb9.cell 2
      simp [execOp, Act.eval, e5, q0, q1, q2, go_sem]
    · refine opW_free rfl rfl (op_val (d := 19) rfl (.agg #[.int .i64 N, .int .i64 R, .slice b n c1]) (fun fr9 wq hf hd hb => ⟨?_, ?_⟩) _)
      rotate_left
      · exact rfl
      have e3 : fr9.tmps.getD 3 undef = .pointer (some ⟨w1.heap.size, 0, none⟩) := hf 3 (by kernel_rfl)
      have hb9 := T4.out.keep hb
      have q0 : wq.cell? ⟨w1.heap.size, 0, none⟩ = some (.int .i64 N) := hb9.cell 0
      have q1 : wq.cell? ⟨w1.heap.size, 1, none⟩ = some (.int .i64 R) := hb9.cell 1
      have q2 : wq.cell? ⟨w1.heap.size, 2, none⟩ = some (.slice b n c1) := hb9.cell 2
      simp [execOp, Act.eval, e3, q0, q1, q2, go_sem]
    · refine opW_free rfl rfl (op_val (d := 20) rfl (.agg #[.int .i64 y0, .int .i64 y1, .int .i64 y2, .int .i64 y3, .int .i64 y4]) (fun fr9 wq hf hd hb => ⟨?_, ?_⟩) _)
      rotate_left
      · exact rfl
      have e4 : fr9.tmps.getD 4 undef = .pointer (some ⟨(w1.heap.size + 1), 0, none⟩) := hf 4 (by kernel_rfl)
      have hb9 := Fb4.out.keep hb
      have q0 : wq.cell? ⟨(w1.heap.size + 1), 0, none⟩ = some (.int .i64 y0) := hb9.cell 0
      have q1 : wq.cell? ⟨(w1.heap.size + 1), 1, none⟩ = some (.int .i64 y1) := hb9.cell 1
      have q2 : wq.cell? ⟨(w1.heap.size + 1), 2, none⟩ = some (.int .i64 y2) := hb9.cell 2
      have q3 : wq.cell? ⟨(w1.heap.size + 1), 3, none⟩ = some (.int .i64 y3) := hb9.cell 3
      have q4 : wq.cell? ⟨(w1.heap.size + 1), 4, none⟩ = some (.int .i64 y4) := hb9.cell 4
      simp [execOp, Act.eval, e4, q0, q1, q2, q3, q4, go_sem]
    · refine opW_free rfl rfl ?_
      intro fr9 wq hf hd hb
      have e19 : fr9.tmps.getD 19 undef = .agg #[.int .i64 N, .int .i64 R, .slice b n c1] := hd 19 (by kernel_rfl)
      have e20 : fr9.tmps.getD 20 undef = .agg #[.int .i64 y0, .int .i64 y1, .int .i64 y2, .int .i64 y3, .int .i64 y4] := hd 20 (by kernel_rfl)
      have hv9 : (#[Operand.tmp 19, Operand.tmp 20] : Array Operand).map fr9.eval = #[.agg #[.int .i64 N, .int .i64 R, .slice b n c1], .agg #[.int .i64 y0, .int .i64 y1, .int .i64 y2, .int .i64 y3, .int .i64 y4]] := by simp only [List.map_toArray, List.map_cons, List.map_nil, Act.eval, e19, e20]
      refine ⟨21, rfl, op_call rfl (run_callL _ _ _ 48 _ _ _ rfl rfl hv9 (enters_of Try.func48 (by kernel_rfl) rfl)) ?_⟩
      refine (s_Drop_r HDR.out b n c1 wq HN.out hn20 hcp (I4.out.below hb) HNN.out).mono ?_
      rintro e w5 ⟨a5, c5, rfl, o5, g5⟩
      exact ⟨_, rfl, _, rfl, ⟨a5, c5, rfl, row_wider o5 hb.size⟩, grown_below g5⟩
    · refine opW_free rfl rfl ?_
      intro fr9 wq hf hd hb
      have e18 : fr9.tmps.getD 18 undef = .agg #[.int .i64 d1, .int .i64 d2, .slice a3 d3.length c3] := hd 18 (by kernel_rfl)
      obtain ⟨a21, c21, e21, o21⟩ : ∃ (a2 : Option Addr) (c2 : Nat), fr9.tmps.getD 21 undef = .agg #[.int .i64 d1, .int .i64 d2, .slice a2 (d3.length) c2] ∧ wq.ownsRow w4.heap.size 69 7 (.slice a2 (d3.length) c2) (d3.length) (eCells d3) := hd 21 (by kernel_rfl)
      have hv9 : (#[Operand.tmp 18, Operand.tmp 21] : Array Operand).map fr9.eval = #[.agg #[.int .i64 d1, .int .i64 d2, .slice a3 d3.length c3], .agg #[.int .i64 d1, .int .i64 d2, .slice a21 (d3.length) c21]] := by simp only [List.map_toArray, List.map_cons, List.map_nil, Act.eval, e18, e21]
      refine ⟨22, rfl, op_call rfl (run_callL _ _ _ 18 _ _ _ rfl rfl hv9 (enters_of Try.func18 (by kernel_rfl) rfl)) ?_⟩
      refine (c_sameTable d1 d2 a3 a21 _ c3 c21 d3 wq rfl HDL.out (X4.out.below hb) (EntRow.ents o21)).mono ?_
      rintro e w5 ⟨rfl, g5⟩
      exact ⟨_, rfl, _, rfl, rfl, g5⟩
  · intro fq wq hf hbq
    have e18 : fq 18 = .agg #[.int .i64 d1, .int .i64 d2, .slice a3 d3.length c3] := hf 18 (by decide)
    have e19 : fq 19 = .agg #[.int .i64 N, .int .i64 R, .slice b n c1] := hf 19 (by decide)
    have e20 : fq 20 = .agg #[.int .i64 y0, .int .i64 y1, .int .i64 y2, .int .i64 y3, .int .i64 y4] := hf 20 (by decide)
    obtain ⟨a21, c21, e21, o21⟩ : ∃ (a2 : Option Addr) (c2 : Nat), fq 21 = .agg #[.int .i64 d1, .int .i64 d2, .slice a2 (d3.length) c2] ∧ wq.ownsRow w4.heap.size 69 7 (.slice a2 (d3.length) c2) (d3.length) (eCells d3) := hf 21 (by decide)
    have e22 : fq 22 = .bool true := hf 22 (by decide)
    simp only [List.drop_succ_cons, List.drop_zero, putL, Act.put, List.setIfInBounds_toArray, List.set_cons_succ, List.set_cons_zero, e18, e19, e20, e21, e22]
    clear hf e18 e19 e20 e21 e22
    clear o21
    obtain ⟨w5, rfl⟩ : ∃ W, W = wq := ⟨_, rfl⟩
    have z5 := (hbq).size
    have D5 := Lib.hid (Below.step D4.out hbq (by omega))
    have I5 := Lib.hid (I4.out.below hbq)
    have T5 := Lib.hid (T4.out.keep hbq)
    have Fb5 := Lib.hid (Fb4.out.keep hbq)
    have X5 := Lib.hid (X4.out.below hbq)
    have B5 := Lib.hid (B4.out.keep hbq)
    clear D4 I4 T4 Fb4 X4 B4
    clear hbq
    rcases drop_size (t := (N, R, es)) (f := (y0, y1, y2, y3, y4)) with ⟨htv, hz⟩ | ⟨htv, hz, hs⟩
    · rw [HDR.out] at hz
      simp only [Prod.mk.injEq] at hz
      obtain ⟨rfl, rfl, rfl⟩ := hz
      have htv : tv N R es = false := htv
      clear HDR
      obtain ⟨t_0, t_1, t_2, t_f⟩ := T5.out.three
      obtain ⟨b_0, b_1, b_2, b_f⟩ := B5.out.three
      go_wp2_with fail
      refine (c_TableValid N R b n c1 es _ HN.out hn20 I5.out).mono ?_
      rintro e w6 ⟨rfl, b6⟩
      clear t_0 t_1 t_2 t_f b_0 b_1 b_2 b_f
      have z6 := (b6).size
      have D6 := Lib.hid (Below.step D5.out b6 (by omega))
      have I6 := Lib.hid (I5.out.below b6)
      have T6 := Lib.hid (T5.out.keep b6)
      have Fb6 := Lib.hid (Fb5.out.keep b6)
      have X6 := Lib.hid (X5.out.below b6)
      have B6 := Lib.hid (B5.out.keep b6)
      clear D5 I5 T5 Fb5 X5 B5
      clear b6
      rw [htv]
      obtain ⟨t_0, t_1, t_2, t_f⟩ := T6.out.three
      obtain ⟨b_0, b_1, b_2, b_f⟩ := B6.out.three
      go_wp2_with fail
      refine (c_alive _).mono ?_
      rintro e w7 ⟨rfl, b7⟩
      clear t_0 t_1 t_2 t_f b_0 b_1 b_2 b_f
      have z7 := (b7).size
      have D7 := Lib.hid (Below.step D6.out b7 (by omega))
      have I7 := Lib.hid (I6.out.below b7)
      have T7 := Lib.hid (T6.out.keep b7)
      have Fb7 := Lib.hid (Fb6.out.keep b7)
      have X7 := Lib.hid (X6.out.below b7)
      have B7 := Lib.hid (B6.out.keep b7)
      clear D6 I6 T6 Fb6 X6 B6
      clear b7
      go_wp2
      go_ret
      exact ⟨rfl, D7.out⟩
    · have hz' := HDR.out.symm.trans hz
      have htv : tv N R es = true := htv
      have hs : 1 ≤ N := hs
      have HK : Hid (∀ e ∈ es, e.1 ≠ (y0, y1, y2, y3, y4) → findT (d1, d2, d3) e.1 = e.2.1) := Lib.hid (fun e he hne => by have := drop_keeps htv he hne; rw [HDR.out] at this; exact this)
      have HG : Hid (findT (d1, d2, d3) (y0, y1, y2, y3, y4) = -1) := Lib.hid (by have := drop_gone (N, R, es) (y0, y1, y2, y3, y4); rw [HDR.out] at this; exact this)
      simp only [Prod.mk.injEq] at hz'
      obtain ⟨rfl, rfl, hd3⟩ := hz'
      have HV : Hid (tv d1 d2 d3 = true) := Lib.hid (by rw [hd3]; exact drop_valid _ htv)
      have HT : Hid (dropT (d1, d2, d3) (y0, y1, y2, y3, y4) = (d1, d2, d3)) := Lib.hid (by rw [hd3]; exact drop_twice _ htv)
      clear hz hd3
      have hs0 : ¬ d1 = 0 := by omega
      obtain ⟨t_0, t_1, t_2, t_f⟩ := T5.out.three
      obtain ⟨fb_0, fb_1, fb_2, fb_3, fb_4, fb_f⟩ := Fb5.out.five
      obtain ⟨b_0, b_1, b_2, b_f⟩ := B5.out.three
      go_wp2
      clear t_0 t_1 t_2 t_f fb_0 fb_1 fb_2 fb_3 fb_4 fb_f b_0 b_1 b_2 b_f
      go_loopw [6] (fun i wr => ∃ (k : Nat), k ≤ n ∧ i = .int .i64 k ∧ Below w5.heap.size w5 wr) (fun i _ => n - (intOf i).toNat)
      case atStart => exact ⟨0, Nat.zero_le _, rfl, Below.refl _ _⟩
      case round =>
        obtain ⟨k, hk, rfl, hG⟩ := hrel
        obtain ⟨w6, rfl⟩ : ∃ W, W = wr := ⟨_, rfl⟩
        have z6 := (hG).size
        have D6 := Lib.hid (Below.step D5.out hG (by omega))
        have I6 := Lib.hid (I5.out.below hG)
        have T6 := Lib.hid (T5.out.keep hG)
        have Fb6 := Lib.hid (Fb5.out.keep hG)
        have X6 := Lib.hid (X5.out.below hG)
        have B6 := Lib.hid (B5.out.keep hG)
        have G6 := Lib.hid (hG)
        clear hG
        by_cases hlt : k < n
        · obtain ⟨bb, off, rfl, hbl, hc⟩ := I6.out.at HN.out hlt
          obtain ⟨q0, q1, q2, q3, q4, q5, q6⟩ := hc k hlt
          clear hc
          have HM : Hid (es.getD k e0 ∈ es) := Lib.hid (getD_mem7 (by rw [HN.out]; exact hlt))
          generalize hE : es.getD k e0 = E at *
          obtain ⟨⟨x0, x1, x2, x3, x4⟩, x5, x6⟩ := E
          clear hE
          dsimp only at q0 q1 q2 q3 q4 q5 q6
          by_cases hq : ((x0, x1, x2, x3, x4) : F5) = (y0, y1, y2, y3, y4)
          · have hqe : ∀ w, (binOp .neq 37 (.agg #[.int .i64 x0, .int .i64 x1, .int .i64 x2, .int .i64 x3, .int .i64 x4]) (.agg #[.int .i64 y0, .int .i64 y1, .int .i64 y2, .int .i64 y3, .int .i64 y4])).run Try.prog w = .ok (.bool false) w := neqF_no' hq
            have HQ := Lib.hid hq
            clear hq
            obtain ⟨t_0, t_1, t_2, t_f⟩ := T6.out.three
            go_upto_region 12 with fail
            clear t_0 t_1 t_2 t_f
            refine region_anyW _ 24 80 [40, 41, 42, 43, 44, 45, 46, 47, 48, 49, 50, 51, 52, 53, 54, 55, 56, 57, 58, 59, 60, 61, 62, 63] [(40, .val (.pointer (some ⟨w1.heap.size, 2, none⟩))), (41, .val (.slice (some ⟨bb, off, none⟩) n c1)), (42, .val (.int .i64 k)), (43, .val (.pointer (some ⟨bb, off + k * 7, none⟩))), (44, .val (.pointer (some ⟨bb, off + k * 7, none⟩))), (45, .val (.agg #[.int .i64 x0, .int .i64 x1, .int .i64 x2, .int .i64 x3, .int .i64 x4])), (46, .val (.agg #[.int .i64 y0, .int .i64 y1, .int .i64 y2, .int .i64 y3, .int .i64 y4])), (47, .val (.bool false)), (48, .val (.bool false)), (49, .val (undef)), (50, .val (undef)), (51, .val (undef)), (52, .val (undef)), (53, .val (undef)), (54, .val (undef)), (55, .val (undef)), (56, .val (undef)), (57, .val (undef)), (58, .val (undef)), (59, .val (undef)), (60, .val (undef)), (61, .val (undef)), (62, .val (undef)), (63, .val (undef))] rfl (by kernel_rfl) ?_ ?_
            · refine ⟨?_, ?_, ?_, ?_, ?_, ?_, ?_, ?_, ?_, ?_, ?_, ?_, ?_, ?_, ?_, ?_, ?_, ?_, ?_, ?_, ?_, ?_, ?_, ?_, trivial⟩
              · refine opW_free rfl rfl (op_val (d := 40) rfl (.pointer (some ⟨w1.heap.size, 2, none⟩)) (fun fr9 wq hf hd hb => ⟨?_, ?_⟩) _)
                rotate_left
                · exact rfl
                have e3 : fr9.tmps.getD 3 undef = .pointer (some ⟨w1.heap.size, 0, none⟩) := hf 3 (by kernel_rfl)
                simp [execOp, Act.eval, e3, go_sem]
              · refine opW_free rfl rfl (op_val (d := 41) rfl (.slice (some ⟨bb, off, none⟩) n c1) (fun fr9 wq hf hd hb => ⟨?_, ?_⟩) _)
                rotate_left
                · exact rfl
                have e40 : fr9.tmps.getD 40 undef = .pointer (some ⟨w1.heap.size, 2, none⟩) := hd 40 (by kernel_rfl)
                have hb9 := T6.out.keep hb
                have q9 : wq.cell? ⟨w1.heap.size, 2, none⟩ = some (.slice (some ⟨bb, off, none⟩) n c1) := hb9.cell 2
                simp [execOp, Act.eval, e40, q9, go_sem]
              · refine opW_free rfl rfl (op_val (d := 42) rfl (.int .i64 k) (fun fr9 wq hf hd hb => ⟨?_, ?_⟩) _)
                rotate_left
                · exact rfl
                have e6 : fr9.tmps.getD 6 undef = .int .i64 k := hf 6 (by kernel_rfl)
                exact (run_mv _ _ _ (.tmp 6) _ e6).1 rfl
              · refine opW_free rfl rfl (op_val (d := 43) rfl (.pointer (some ⟨bb, off + k * 7, none⟩)) (fun fr9 wq hf hd hb => ⟨?_, ?_⟩) _)
                rotate_left
                · exact rfl
                have e41 : fr9.tmps.getD 41 undef = .slice (some ⟨bb, off, none⟩) n c1 := hd 41 (by kernel_rfl)
                have e42 : fr9.tmps.getD 42 undef = .int .i64 k := hd 42 (by kernel_rfl)
                exact run_ixE _ _ _ (.tmp 41) (.tmp 42) bb off _ _ k hlt rfl e41 e42
              · refine opW_free rfl rfl (op_val (d := 44) rfl (.pointer (some ⟨bb, off + k * 7, none⟩)) (fun fr9 wq hf hd hb => ⟨?_, ?_⟩) _)
                rotate_left
                · exact rfl
                have e43 : fr9.tmps.getD 43 undef = .pointer (some ⟨bb, off + k * 7, none⟩) := hd 43 (by kernel_rfl)
                simp [execOp, Act.eval, e43, go_sem]
              · refine opW_free rfl rfl (op_val (d := 45) rfl (.agg #[.int .i64 x0, .int .i64 x1, .int .i64 x2, .int .i64 x3, .int .i64 x4]) (fun fr9 wq hf hd hb => ⟨?_, ?_⟩) _)
                rotate_left
                · exact rfl
                have e44 : fr9.tmps.getD 44 undef = .pointer (some ⟨bb, off + k * 7, none⟩) := hd 44 (by kernel_rfl)
                have q0 := (World.cell?_of_block (hb.block _ hbl)).trans q0
                have q1 := (World.cell?_of_block (hb.block _ hbl)).trans q1
                have q2 := (World.cell?_of_block (hb.block _ hbl)).trans q2
                have q3 := (World.cell?_of_block (hb.block _ hbl)).trans q3
                have q4 := (World.cell?_of_block (hb.block _ hbl)).trans q4
                simp [execOp, Act.eval, e44, q0, q1, q2, q3, q4, go_sem]
              · refine opW_free rfl rfl (op_val (d := 46) rfl (.agg #[.int .i64 y0, .int .i64 y1, .int .i64 y2, .int .i64 y3, .int .i64 y4]) (fun fr9 wq hf hd hb => ⟨?_, ?_⟩) _)
                rotate_left
                · exact rfl
                have e4 : fr9.tmps.getD 4 undef = .pointer (some ⟨(w1.heap.size + 1), 0, none⟩) := hf 4 (by kernel_rfl)
                have hb9 := Fb6.out.keep hb
                have q0 : wq.cell? ⟨(w1.heap.size + 1), 0, none⟩ = some (.int .i64 y0) := hb9.cell 0
                have q1 : wq.cell? ⟨(w1.heap.size + 1), 1, none⟩ = some (.int .i64 y1) := hb9.cell 1
                have q2 : wq.cell? ⟨(w1.heap.size + 1), 2, none⟩ = some (.int .i64 y2) := hb9.cell 2
                have q3 : wq.cell? ⟨(w1.heap.size + 1), 3, none⟩ = some (.int .i64 y3) := hb9.cell 3
                have q4 : wq.cell? ⟨(w1.heap.size + 1), 4, none⟩ = some (.int .i64 y4) := hb9.cell 4
                simp [execOp, Act.eval, e4, q0, q1, q2, q3, q4, go_sem]
              · refine opW_free rfl rfl (op_val (d := 47) rfl (.bool false) (fun fr9 wq hf hd hb => ⟨?_, ?_⟩) _)
                rotate_left
                · exact rfl
                have e45 : fr9.tmps.getD 45 undef = .agg #[.int .i64 x0, .int .i64 x1, .int .i64 x2, .int .i64 x3, .int .i64 x4] := hd 45 (by kernel_rfl)
                have e46 : fr9.tmps.getD 46 undef = .agg #[.int .i64 y0, .int .i64 y1, .int .i64 y2, .int .i64 y3, .int .i64 y4] := hd 46 (by kernel_rfl)
                simp [execOp, Act.eval, e45, e46, hqe, go_sem]
              · refine opW_free rfl rfl (op_val (d := 48) rfl (.bool false) (fun fr9 wq hf hd hb => ⟨?_, ?_⟩) _)
                rotate_left
                · exact rfl
                have e47 : fr9.tmps.getD 47 undef = .bool false := hd 47 (by kernel_rfl)
                exact (run_mv _ _ _ (.tmp 47) _ e47).1 rfl
              · exact opW_skip (d := 49) (s := 48) (b := false) rfl rfl rfl rfl (by kernel_rfl) rfl (by decide) rfl
              · exact opW_skip (d := 50) (s := 48) (b := false) rfl rfl rfl rfl (by kernel_rfl) rfl (by decide) rfl
              · exact opW_skip (d := 51) (s := 48) (b := false) rfl rfl rfl rfl (by kernel_rfl) rfl (by decide) rfl
              · exact opW_skip (d := 52) (s := 48) (b := false) rfl rfl rfl rfl (by kernel_rfl) rfl (by decide) rfl
              · exact opW_skip (d := 53) (s := 48) (b := false) rfl rfl rfl rfl (by kernel_rfl) rfl (by decide) rfl
              · exact opW_skip (d := 54) (s := 48) (b := false) rfl rfl rfl rfl (by kernel_rfl) rfl (by decide) rfl
              · exact opW_skip (d := 55) (s := 48) (b := false) rfl rfl rfl rfl (by kernel_rfl) rfl (by decide) rfl
              · exact opW_skip (d := 56) (s := 48) (b := false) rfl rfl rfl rfl (by kernel_rfl) rfl (by decide) rfl
              · exact opW_skip (d := 57) (s := 48) (b := false) rfl rfl rfl rfl (by kernel_rfl) rfl (by decide) rfl
              · exact opW_skip (d := 58) (s := 48) (b := false) rfl rfl rfl rfl (by kernel_rfl) rfl (by decide) rfl
              · exact opW_skip (d := 59) (s := 48) (b := false) rfl rfl rfl rfl (by kernel_rfl) rfl (by decide) rfl
              · exact opW_skip (d := 60) (s := 48) (b := false) rfl rfl rfl rfl (by kernel_rfl) rfl (by decide) rfl
              · exact opW_skip (d := 61) (s := 48) (b := false) rfl rfl rfl rfl (by kernel_rfl) rfl (by decide) rfl
              · exact opW_skip (d := 62) (s := 48) (b := false) rfl rfl rfl rfl (by kernel_rfl) rfl (by decide) rfl
              · exact opW_skip (d := 63) (s := 48) (b := false) rfl rfl rfl rfl (by kernel_rfl) rfl (by decide) rfl
            · intro fq wq hf hbq
              have e40 : fq 40 = .pointer (some ⟨w1.heap.size, 2, none⟩) := hf 40 (by decide)
              have e41 : fq 41 = .slice (some ⟨bb, off, none⟩) n c1 := hf 41 (by decide)
              have e42 : fq 42 = .int .i64 k := hf 42 (by decide)
              have e43 : fq 43 = .pointer (some ⟨bb, off + k * 7, none⟩) := hf 43 (by decide)
              have e44 : fq 44 = .pointer (some ⟨bb, off + k * 7, none⟩) := hf 44 (by decide)
              have e45 : fq 45 = .agg #[.int .i64 x0, .int .i64 x1, .int .i64 x2, .int .i64 x3, .int .i64 x4] := hf 45 (by decide)
              have e46 : fq 46 = .agg #[.int .i64 y0, .int .i64 y1, .int .i64 y2, .int .i64 y3, .int .i64 y4] := hf 46 (by decide)
              have e47 : fq 47 = .bool false := hf 47 (by decide)
              have e48 : fq 48 = .bool false := hf 48 (by decide)
              have e49 : fq 49 = undef := hf 49 (by decide)
              have e50 : fq 50 = undef := hf 50 (by decide)
              have e51 : fq 51 = undef := hf 51 (by decide)
              have e52 : fq 52 = undef := hf 52 (by decide)
              have e53 : fq 53 = undef := hf 53 (by decide)
              have e54 : fq 54 = undef := hf 54 (by decide)
              have e55 : fq 55 = undef := hf 55 (by decide)
              have e56 : fq 56 = undef := hf 56 (by decide)
              have e57 : fq 57 = undef := hf 57 (by decide)
              have e58 : fq 58 = undef := hf 58 (by decide)
              have e59 : fq 59 = undef := hf 59 (by decide)
              have e60 : fq 60 = undef := hf 60 (by decide)
              have e61 : fq 61 = undef := hf 61 (by decide)
              have e62 : fq 62 = undef := hf 62 (by decide)
              have e63 : fq 63 = undef := hf 63 (by decide)
              simp only [List.drop_succ_cons, List.drop_zero, putL, Act.put, List.setIfInBounds_toArray, List.set_cons_succ, List.set_cons_zero, e40, e41, e42, e43, e44, e45, e46, e47, e48, e49, e50, e51, e52, e53, e54, e55, e56, e57, e58, e59, e60, e61, e62, e63]
              clear hf e40 e41 e42 e43 e44 e45 e46 e47 e48 e49 e50 e51 e52 e53 e54 e55 e56 e57 e58 e59 e60 e61 e62 e63
              have QG := Lib.hid (Below.step G6.out hbq (by have := G6.out.size; omega))
              clear hbq
              go_wp2
              go_roundw
              case rel => exact ⟨k + 1, by omega, by go_num, QG.out⟩
              case measure => simp [intOf]; omega
          · have hqe : ∀ w, (binOp .neq 37 (.agg #[.int .i64 x0, .int .i64 x1, .int .i64 x2, .int .i64 x3, .int .i64 x4]) (.agg #[.int .i64 y0, .int .i64 y1, .int .i64 y2, .int .i64 y3, .int .i64 y4])).run Try.prog w = .ok (.bool true) w := neqF_yes' hq
            have hFK := HK.out _ HM.out hq
            have HQ := Lib.hid hq
            clear hq
            obtain ⟨t_0, t_1, t_2, t_f⟩ := T6.out.three
            go_upto_region 12 with fail
            clear t_0 t_1 t_2 t_f
            refine region_anyW _ 24 80 [40, 41, 42, 43, 44, 45, 46, 47, 48, 49, 50, 51, 52, 53, 54, 55, 56, 57, 58, 59, 60, 61, 62, 63] [(40, .val (.pointer (some ⟨w1.heap.size, 2, none⟩))), (41, .val (.slice (some ⟨bb, off, none⟩) n c1)), (42, .val (.int .i64 k)), (43, .val (.pointer (some ⟨bb, off + k * 7, none⟩))), (44, .val (.pointer (some ⟨bb, off + k * 7, none⟩))), (45, .val (.agg #[.int .i64 x0, .int .i64 x1, .int .i64 x2, .int .i64 x3, .int .i64 x4])), (46, .val (.agg #[.int .i64 y0, .int .i64 y1, .int .i64 y2, .int .i64 y3, .int .i64 y4])), (47, .val (.bool true)), (48, .val (.bool true)), (49, .val (.agg #[.int .i64 d1, .int .i64 d2, .slice a3 d3.length c3])), (50, .val (.pointer (some ⟨w1.heap.size, 2, none⟩))), (51, .val (.slice (some ⟨bb, off, none⟩) n c1)), (52, .val (.int .i64 k)), (53, .val (.pointer (some ⟨bb, off + k * 7, none⟩))), (54, .val (.pointer (some ⟨bb, off + k * 7, none⟩))), (55, .val (.agg #[.int .i64 x0, .int .i64 x1, .int .i64 x2, .int .i64 x3, .int .i64 x4])), (56, .val (.int .i64 x5)), (57, .val (.pointer (some ⟨w1.heap.size, 2, none⟩))), (58, .val (.slice (some ⟨bb, off, none⟩) n c1)), (59, .val (.int .i64 k)), (60, .val (.pointer (some ⟨bb, off + k * 7, none⟩))), (61, .val (.pointer (some ⟨bb, off + k * 7 + 5, none⟩))), (62, .val (.int .i64 x5)), (63, .val (.bool false))] rfl (by kernel_rfl) ?_ ?_
            · refine ⟨?_, ?_, ?_, ?_, ?_, ?_, ?_, ?_, ?_, ?_, ?_, ?_, ?_, ?_, ?_, ?_, ?_, ?_, ?_, ?_, ?_, ?_, ?_, ?_, trivial⟩
              · refine opW_free rfl rfl (op_val (d := 40) rfl (.pointer (some ⟨w1.heap.size, 2, none⟩)) (fun fr9 wq hf hd hb => ⟨?_, ?_⟩) _)
                rotate_left
                · exact rfl
                have e3 : fr9.tmps.getD 3 undef = .pointer (some ⟨w1.heap.size, 0, none⟩) := hf 3 (by kernel_rfl)
                simp [execOp, Act.eval, e3, go_sem]
              · refine opW_free rfl rfl (op_val (d := 41) rfl (.slice (some ⟨bb, off, none⟩) n c1) (fun fr9 wq hf hd hb => ⟨?_, ?_⟩) _)
                rotate_left
                · exact rfl
                have e40 : fr9.tmps.getD 40 undef = .pointer (some ⟨w1.heap.size, 2, none⟩) := hd 40 (by kernel_rfl)
                have hb9 := T6.out.keep hb
                have q9 : wq.cell? ⟨w1.heap.size, 2, none⟩ = some (.slice (some ⟨bb, off, none⟩) n c1) := hb9.cell 2
                simp [execOp, Act.eval, e40, q9, go_sem]
              · refine opW_free rfl rfl (op_val (d := 42) rfl (.int .i64 k) (fun fr9 wq hf hd hb => ⟨?_, ?_⟩) _)
                rotate_left
                · exact rfl
                have e6 : fr9.tmps.getD 6 undef = .int .i64 k := hf 6 (by kernel_rfl)
                exact (run_mv _ _ _ (.tmp 6) _ e6).1 rfl
              · refine opW_free rfl rfl (op_val (d := 43) rfl (.pointer (some ⟨bb, off + k * 7, none⟩)) (fun fr9 wq hf hd hb => ⟨?_, ?_⟩) _)
                rotate_left
                · exact rfl
                have e41 : fr9.tmps.getD 41 undef = .slice (some ⟨bb, off, none⟩) n c1 := hd 41 (by kernel_rfl)
                have e42 : fr9.tmps.getD 42 undef = .int .i64 k := hd 42 (by kernel_rfl)
                exact run_ixE _ _ _ (.tmp 41) (.tmp 42) bb off _ _ k hlt rfl e41 e42
              · refine opW_free rfl rfl (op_val (d := 44) rfl (.pointer (some ⟨bb, off + k * 7, none⟩)) (fun fr9 wq hf hd hb => ⟨?_, ?_⟩) _)
                rotate_left
                · exact rfl
                have e43 : fr9.tmps.getD 43 undef = .pointer (some ⟨bb, off + k * 7, none⟩) := hd 43 (by kernel_rfl)
                simp [execOp, Act.eval, e43, go_sem]
              · refine opW_free rfl rfl (op_val (d := 45) rfl (.agg #[.int .i64 x0, .int .i64 x1, .int .i64 x2, .int .i64 x3, .int .i64 x4]) (fun fr9 wq hf hd hb => ⟨?_, ?_⟩) _)
                rotate_left
                · exact rfl
                have e44 : fr9.tmps.getD 44 undef = .pointer (some ⟨bb, off + k * 7, none⟩) := hd 44 (by kernel_rfl)
                have q0 := (World.cell?_of_block (hb.block _ hbl)).trans q0
                have q1 := (World.cell?_of_block (hb.block _ hbl)).trans q1
                have q2 := (World.cell?_of_block (hb.block _ hbl)).trans q2
                have q3 := (World.cell?_of_block (hb.block _ hbl)).trans q3
                have q4 := (World.cell?_of_block (hb.block _ hbl)).trans q4
                simp [execOp, Act.eval, e44, q0, q1, q2, q3, q4, go_sem]
              · refine opW_free rfl rfl (op_val (d := 46) rfl (.agg #[.int .i64 y0, .int .i64 y1, .int .i64 y2, .int .i64 y3, .int .i64 y4]) (fun fr9 wq hf hd hb => ⟨?_, ?_⟩) _)
                rotate_left
                · exact rfl
                have e4 : fr9.tmps.getD 4 undef = .pointer (some ⟨(w1.heap.size + 1), 0, none⟩) := hf 4 (by kernel_rfl)
                have hb9 := Fb6.out.keep hb
                have q0 : wq.cell? ⟨(w1.heap.size + 1), 0, none⟩ = some (.int .i64 y0) := hb9.cell 0
                have q1 : wq.cell? ⟨(w1.heap.size + 1), 1, none⟩ = some (.int .i64 y1) := hb9.cell 1
                have q2 : wq.cell? ⟨(w1.heap.size + 1), 2, none⟩ = some (.int .i64 y2) := hb9.cell 2
                have q3 : wq.cell? ⟨(w1.heap.size + 1), 3, none⟩ = some (.int .i64 y3) := hb9.cell 3
                have q4 : wq.cell? ⟨(w1.heap.size + 1), 4, none⟩ = some (.int .i64 y4) := hb9.cell 4
                simp [execOp, Act.eval, e4, q0, q1, q2, q3, q4, go_sem]
              · refine opW_free rfl rfl (op_val (d := 47) rfl (.bool true) (fun fr9 wq hf hd hb => ⟨?_, ?_⟩) _)
                rotate_left
                · exact rfl
                have e45 : fr9.tmps.getD 45 undef = .agg #[.int .i64 x0, .int .i64 x1, .int .i64 x2, .int .i64 x3, .int .i64 x4] := hd 45 (by kernel_rfl)
                have e46 : fr9.tmps.getD 46 undef = .agg #[.int .i64 y0, .int .i64 y1, .int .i64 y2, .int .i64 y3, .int .i64 y4] := hd 46 (by kernel_rfl)
                simp [execOp, Act.eval, e45, e46, hqe, go_sem]
              · refine opW_free rfl rfl (op_val (d := 48) rfl (.bool true) (fun fr9 wq hf hd hb => ⟨?_, ?_⟩) _)
                rotate_left
                · exact rfl
                have e47 : fr9.tmps.getD 47 undef = .bool true := hd 47 (by kernel_rfl)
                exact (run_mv _ _ _ (.tmp 47) _ e47).1 rfl
              · refine opW_want (s := 48) rfl rfl rfl (by kernel_rfl) rfl (op_val (d := 49) rfl (.agg #[.int .i64 d1, .int .i64 d2, .slice a3 d3.length c3]) (fun fr9 wq hf hd hb => ⟨?_, ?_⟩) _)
                rotate_left
                · exact rfl
                have e5 : fr9.tmps.getD 5 undef = .pointer (some ⟨w3.heap.size, 0, none⟩) := hf 5 (by kernel_rfl)
                have hb9 := B6.out.keep hb
                have q0 : wq.cell? ⟨w3.heap.size, 0, none⟩ = some (.int .i64 d1) := hb9.cell 0
                have q1 : wq.cell? ⟨w3.heap.size, 1, none⟩ = some (.int .i64 d2) := hb9.cell 1
                have q2 : wq.cell? ⟨w3.heap.size, 2, none⟩ = some (.slice a3 d3.length c3) := hb9.cell 2
                simp [execOp, Act.eval, e5, q0, q1, q2, go_sem]
              · refine opW_want (s := 48) rfl rfl rfl (by kernel_rfl) rfl (op_val (d := 50) rfl (.pointer (some ⟨w1.heap.size, 2, none⟩)) (fun fr9 wq hf hd hb => ⟨?_, ?_⟩) _)
                rotate_left
                · exact rfl
                have e3 : fr9.tmps.getD 3 undef = .pointer (some ⟨w1.heap.size, 0, none⟩) := hf 3 (by kernel_rfl)
                simp [execOp, Act.eval, e3, go_sem]
              · refine opW_want (s := 48) rfl rfl rfl (by kernel_rfl) rfl (op_val (d := 51) rfl (.slice (some ⟨bb, off, none⟩) n c1) (fun fr9 wq hf hd hb => ⟨?_, ?_⟩) _)
                rotate_left
                · exact rfl
                have e50 : fr9.tmps.getD 50 undef = .pointer (some ⟨w1.heap.size, 2, none⟩) := hd 50 (by kernel_rfl)
                have hb9 := T6.out.keep hb
                have q9 : wq.cell? ⟨w1.heap.size, 2, none⟩ = some (.slice (some ⟨bb, off, none⟩) n c1) := hb9.cell 2
                simp [execOp, Act.eval, e50, q9, go_sem]
              · refine opW_want (s := 48) rfl rfl rfl (by kernel_rfl) rfl (op_val (d := 52) rfl (.int .i64 k) (fun fr9 wq hf hd hb => ⟨?_, ?_⟩) _)
                rotate_left
                · exact rfl
                have e6 : fr9.tmps.getD 6 undef = .int .i64 k := hf 6 (by kernel_rfl)
                exact (run_mv _ _ _ (.tmp 6) _ e6).1 rfl
              · refine opW_want (s := 48) rfl rfl rfl (by kernel_rfl) rfl (op_val (d := 53) rfl (.pointer (some ⟨bb, off + k * 7, none⟩)) (fun fr9 wq hf hd hb => ⟨?_, ?_⟩) _)
                rotate_left
                · exact rfl
                have e51 : fr9.tmps.getD 51 undef = .slice (some ⟨bb, off, none⟩) n c1 := hd 51 (by kernel_rfl)
                have e52 : fr9.tmps.getD 52 undef = .int .i64 k := hd 52 (by kernel_rfl)
                exact run_ixE _ _ _ (.tmp 51) (.tmp 52) bb off _ _ k hlt rfl e51 e52
              · refine opW_want (s := 48) rfl rfl rfl (by kernel_rfl) rfl (op_val (d := 54) rfl (.pointer (some ⟨bb, off + k * 7, none⟩)) (fun fr9 wq hf hd hb => ⟨?_, ?_⟩) _)
                rotate_left
                · exact rfl
                have e53 : fr9.tmps.getD 53 undef = .pointer (some ⟨bb, off + k * 7, none⟩) := hd 53 (by kernel_rfl)
                simp [execOp, Act.eval, e53, go_sem]
              · refine opW_want (s := 48) rfl rfl rfl (by kernel_rfl) rfl (op_val (d := 55) rfl (.agg #[.int .i64 x0, .int .i64 x1, .int .i64 x2, .int .i64 x3, .int .i64 x4]) (fun fr9 wq hf hd hb => ⟨?_, ?_⟩) _)
                rotate_left
                · exact rfl
                have e54 : fr9.tmps.getD 54 undef = .pointer (some ⟨bb, off + k * 7, none⟩) := hd 54 (by kernel_rfl)
                have q0 := (World.cell?_of_block (hb.block _ hbl)).trans q0
                have q1 := (World.cell?_of_block (hb.block _ hbl)).trans q1
                have q2 := (World.cell?_of_block (hb.block _ hbl)).trans q2
                have q3 := (World.cell?_of_block (hb.block _ hbl)).trans q3
                have q4 := (World.cell?_of_block (hb.block _ hbl)).trans q4
                simp [execOp, Act.eval, e54, q0, q1, q2, q3, q4, go_sem]
              · refine opW_want (s := 48) rfl rfl rfl (by kernel_rfl) rfl ?_
                intro fr9 wq hf hd hb
                have e49 : fr9.tmps.getD 49 undef = .agg #[.int .i64 d1, .int .i64 d2, .slice a3 d3.length c3] := hd 49 (by kernel_rfl)
                have e55 : fr9.tmps.getD 55 undef = .agg #[.int .i64 x0, .int .i64 x1, .int .i64 x2, .int .i64 x3, .int .i64 x4] := hd 55 (by kernel_rfl)
                have hv9 : (#[Operand.tmp 49, Operand.tmp 55] : Array Operand).map fr9.eval = #[.agg #[.int .i64 d1, .int .i64 d2, .slice a3 d3.length c3], .agg #[.int .i64 x0, .int .i64 x1, .int .i64 x2, .int .i64 x3, .int .i64 x4]] := by simp only [List.map_toArray, List.map_cons, List.map_nil, Act.eval, e49, e55]
                refine ⟨56, rfl, op_call rfl (run_callL _ _ _ 41 _ _ _ rfl rfl hv9 (enters_of Try.func41 (by kernel_rfl) rfl)) ?_⟩
                refine (c_FindFlow d1 d2 (x0, x1, x2, x3, x4) a3 d3.length c3 d3 wq rfl HDL.out (X6.out.below hb)).mono ?_
                rintro e w5 ⟨rfl, g5⟩
                exact ⟨_, rfl, _, rfl, (congrArg (Value.int .i64) hFK), g5⟩
              · refine opW_want (s := 48) rfl rfl rfl (by kernel_rfl) rfl (op_val (d := 57) rfl (.pointer (some ⟨w1.heap.size, 2, none⟩)) (fun fr9 wq hf hd hb => ⟨?_, ?_⟩) _)
                rotate_left
                · exact rfl
                have e3 : fr9.tmps.getD 3 undef = .pointer (some ⟨w1.heap.size, 0, none⟩) := hf 3 (by kernel_rfl)
                simp [execOp, Act.eval, e3, go_sem]
              · refine opW_want (s := 48) rfl rfl rfl (by kernel_rfl) rfl (op_val (d := 58) rfl (.slice (some ⟨bb, off, none⟩) n c1) (fun fr9 wq hf hd hb => ⟨?_, ?_⟩) _)
                rotate_left
                · exact rfl
                have e57 : fr9.tmps.getD 57 undef = .pointer (some ⟨w1.heap.size, 2, none⟩) := hd 57 (by kernel_rfl)
                have hb9 := T6.out.keep hb
                have q9 : wq.cell? ⟨w1.heap.size, 2, none⟩ = some (.slice (some ⟨bb, off, none⟩) n c1) := hb9.cell 2
                simp [execOp, Act.eval, e57, q9, go_sem]
              · refine opW_want (s := 48) rfl rfl rfl (by kernel_rfl) rfl (op_val (d := 59) rfl (.int .i64 k) (fun fr9 wq hf hd hb => ⟨?_, ?_⟩) _)
                rotate_left
                · exact rfl
                have e6 : fr9.tmps.getD 6 undef = .int .i64 k := hf 6 (by kernel_rfl)
                exact (run_mv _ _ _ (.tmp 6) _ e6).1 rfl
              · refine opW_want (s := 48) rfl rfl rfl (by kernel_rfl) rfl (op_val (d := 60) rfl (.pointer (some ⟨bb, off + k * 7, none⟩)) (fun fr9 wq hf hd hb => ⟨?_, ?_⟩) _)
                rotate_left
                · exact rfl
                have e58 : fr9.tmps.getD 58 undef = .slice (some ⟨bb, off, none⟩) n c1 := hd 58 (by kernel_rfl)
                have e59 : fr9.tmps.getD 59 undef = .int .i64 k := hd 59 (by kernel_rfl)
                exact run_ixE _ _ _ (.tmp 58) (.tmp 59) bb off _ _ k hlt rfl e58 e59
              · refine opW_want (s := 48) rfl rfl rfl (by kernel_rfl) rfl (op_val (d := 61) rfl (.pointer (some ⟨bb, off + k * 7 + 5, none⟩)) (fun fr9 wq hf hd hb => ⟨?_, ?_⟩) _)
                rotate_left
                · exact rfl
                have e60 : fr9.tmps.getD 60 undef = .pointer (some ⟨bb, off + k * 7, none⟩) := hd 60 (by kernel_rfl)
                simp [execOp, Act.eval, e60, go_sem]
              · refine opW_want (s := 48) rfl rfl rfl (by kernel_rfl) rfl (op_val (d := 62) rfl (.int .i64 x5) (fun fr9 wq hf hd hb => ⟨?_, ?_⟩) _)
                rotate_left
                · exact rfl
                have e61 : fr9.tmps.getD 61 undef = .pointer (some ⟨bb, off + k * 7 + 5, none⟩) := hd 61 (by kernel_rfl)
                have q0 := (World.cell?_of_block (hb.block _ hbl)).trans q5
                simp [execOp, Act.eval, e61, q0, go_sem]
              · refine opW_want (s := 48) rfl rfl rfl (by kernel_rfl) rfl (op_val (d := 63) rfl (.bool false) (fun fr9 wq hf hd hb => ⟨?_, ?_⟩) _)
                rotate_left
                · exact rfl
                have e56 : fr9.tmps.getD 56 undef = .int .i64 x5 := hd 56 (by kernel_rfl)
                have e62 : fr9.tmps.getD 62 undef = .int .i64 x5 := hd 62 (by kernel_rfl)
                simp [execOp, Act.eval, e56, e62, go_sem]
            · intro fq wq hf hbq
              have e40 : fq 40 = .pointer (some ⟨w1.heap.size, 2, none⟩) := hf 40 (by decide)
              have e41 : fq 41 = .slice (some ⟨bb, off, none⟩) n c1 := hf 41 (by decide)
              have e42 : fq 42 = .int .i64 k := hf 42 (by decide)
              have e43 : fq 43 = .pointer (some ⟨bb, off + k * 7, none⟩) := hf 43 (by decide)
              have e44 : fq 44 = .pointer (some ⟨bb, off + k * 7, none⟩) := hf 44 (by decide)
              have e45 : fq 45 = .agg #[.int .i64 x0, .int .i64 x1, .int .i64 x2, .int .i64 x3, .int .i64 x4] := hf 45 (by decide)
              have e46 : fq 46 = .agg #[.int .i64 y0, .int .i64 y1, .int .i64 y2, .int .i64 y3, .int .i64 y4] := hf 46 (by decide)
              have e47 : fq 47 = .bool true := hf 47 (by decide)
              have e48 : fq 48 = .bool true := hf 48 (by decide)
              have e49 : fq 49 = .agg #[.int .i64 d1, .int .i64 d2, .slice a3 d3.length c3] := hf 49 (by decide)
              have e50 : fq 50 = .pointer (some ⟨w1.heap.size, 2, none⟩) := hf 50 (by decide)
              have e51 : fq 51 = .slice (some ⟨bb, off, none⟩) n c1 := hf 51 (by decide)
              have e52 : fq 52 = .int .i64 k := hf 52 (by decide)
              have e53 : fq 53 = .pointer (some ⟨bb, off + k * 7, none⟩) := hf 53 (by decide)
              have e54 : fq 54 = .pointer (some ⟨bb, off + k * 7, none⟩) := hf 54 (by decide)
              have e55 : fq 55 = .agg #[.int .i64 x0, .int .i64 x1, .int .i64 x2, .int .i64 x3, .int .i64 x4] := hf 55 (by decide)
              have e56 : fq 56 = .int .i64 x5 := hf 56 (by decide)
              have e57 : fq 57 = .pointer (some ⟨w1.heap.size, 2, none⟩) := hf 57 (by decide)
              have e58 : fq 58 = .slice (some ⟨bb, off, none⟩) n c1 := hf 58 (by decide)
              have e59 : fq 59 = .int .i64 k := hf 59 (by decide)
              have e60 : fq 60 = .pointer (some ⟨bb, off + k * 7, none⟩) := hf 60 (by decide)
              have e61 : fq 61 = .pointer (some ⟨bb, off + k * 7 + 5, none⟩) := hf 61 (by decide)
              have e62 : fq 62 = .int .i64 x5 := hf 62 (by decide)
              have e63 : fq 63 = .bool false := hf 63 (by decide)
              simp only [List.drop_succ_cons, List.drop_zero, putL, Act.put, List.setIfInBounds_toArray, List.set_cons_succ, List.set_cons_zero, e40, e41, e42, e43, e44, e45, e46, e47, e48, e49, e50, e51, e52, e53, e54, e55, e56, e57, e58, e59, e60, e61, e62, e63]
              clear hf e40 e41 e42 e43 e44 e45 e46 e47 e48 e49 e50 e51 e52 e53 e54 e55 e56 e57 e58 e59 e60 e61 e62 e63
              have QG := Lib.hid (Below.step G6.out hbq (by have := G6.out.size; omega))
              clear hbq
              go_wp2
              go_roundw
              case rel => exact ⟨k + 1, by omega, by go_num, QG.out⟩
              case measure => simp [intOf]; omega
        · obtain rfl : n = k := by omega
          obtain ⟨t_0, t_1, t_2, t_f⟩ := T6.out.three
          go_upto_region 14 with fail
          clear t_0 t_1 t_2 t_f
          refine region_anyW _ 15 80 [65, 66, 67, 68, 69, 70, 71, 72, 73, 74, 75, 76, 77, 78, 79] [(65, .val (.agg #[.int .i64 d1, .int .i64 d2, .slice a3 d3.length c3])), (66, .val (.bool true)), (67, .val (.bool true)), (68, .val (.agg #[.int .i64 d1, .int .i64 d2, .slice a3 d3.length c3])), (69, .val (.agg #[.int .i64 y0, .int .i64 y1, .int .i64 y2, .int .i64 y3, .int .i64 y4])), (70, .val (.int .i64 (-1))), (71, .val (.bool true)), (72, .val (.bool true)), (73, .val (.bool true)), (74, .val (.agg #[.int .i64 d1, .int .i64 d2, .slice a3 d3.length c3])), (75, .val (.agg #[.int .i64 y0, .int .i64 y1, .int .i64 y2, .int .i64 y3, .int .i64 y4])), (76, .row w6.heap.size 69 7 (d3.length) (eCells d3) (fun s => .agg #[.int .i64 d1, .int .i64 d2, s])), (77, .val (.agg #[.int .i64 d1, .int .i64 d2, .slice a3 d3.length c3])), (78, .val (.bool true)), (79, .val (.bool true))] rfl (by kernel_rfl) ?_ ?_
          · refine ⟨?_, ?_, ?_, ?_, ?_, ?_, ?_, ?_, ?_, ?_, ?_, ?_, ?_, ?_, ?_, trivial⟩
            · refine opW_free rfl rfl (op_val (d := 65) rfl (.agg #[.int .i64 d1, .int .i64 d2, .slice a3 d3.length c3]) (fun fr9 wq hf hd hb => ⟨?_, ?_⟩) _)
              rotate_left
              · exact rfl
              have e5 : fr9.tmps.getD 5 undef = .pointer (some ⟨w3.heap.size, 0, none⟩) := hf 5 (by kernel_rfl)
              have hb9 := B6.out.keep hb
              have q0 : wq.cell? ⟨w3.heap.size, 0, none⟩ = some (.int .i64 d1) := hb9.cell 0
              have q1 : wq.cell? ⟨w3.heap.size, 1, none⟩ = some (.int .i64 d2) := hb9.cell 1
              have q2 : wq.cell? ⟨w3.heap.size, 2, none⟩ = some (.slice a3 d3.length c3) := hb9.cell 2
              simp [execOp, Act.eval, e5, q0, q1, q2, go_sem]
            · refine opW_free rfl rfl ?_
              intro fr9 wq hf hd hb
              have e65 : fr9.tmps.getD 65 undef = .agg #[.int .i64 d1, .int .i64 d2, .slice a3 d3.length c3] := hd 65 (by kernel_rfl)
              have hv9 : (#[Operand.tmp 65] : Array Operand).map fr9.eval = #[.agg #[.int .i64 d1, .int .i64 d2, .slice a3 d3.length c3]] := by simp only [List.map_toArray, List.map_cons, List.map_nil, Act.eval, e65]
              refine ⟨66, rfl, op_call rfl (run_callL _ _ _ 20 _ _ _ rfl rfl hv9 (enters_of Try.func20 (by kernel_rfl) rfl)) ?_⟩
              refine (c_TableValid d1 d2 a3 d3.length c3 d3 wq rfl HDL.out (X6.out.below hb)).mono ?_
              rintro e w5 ⟨rfl, g5⟩
              exact ⟨_, rfl, _, rfl, (congrArg Value.bool HV.out), g5⟩
            · refine opW_free rfl rfl (op_val (d := 67) rfl (.bool true) (fun fr9 wq hf hd hb => ⟨?_, ?_⟩) _)
              rotate_left
              · exact rfl
              have e66 : fr9.tmps.getD 66 undef = .bool true := hd 66 (by kernel_rfl)
              exact (run_mv _ _ _ (.tmp 66) _ e66).1 rfl
            · refine opW_want (s := 67) rfl rfl rfl (by kernel_rfl) rfl (op_val (d := 68) rfl (.agg #[.int .i64 d1, .int .i64 d2, .slice a3 d3.length c3]) (fun fr9 wq hf hd hb => ⟨?_, ?_⟩) _)
              rotate_left
              · exact rfl
              have e5 : fr9.tmps.getD 5 undef = .pointer (some ⟨w3.heap.size, 0, none⟩) := hf 5 (by kernel_rfl)
              have hb9 := B6.out.keep hb
              have q0 : wq.cell? ⟨w3.heap.size, 0, none⟩ = some (.int .i64 d1) := hb9.cell 0
              have q1 : wq.cell? ⟨w3.heap.size, 1, none⟩ = some (.int .i64 d2) := hb9.cell 1
              have q2 : wq.cell? ⟨w3.heap.size, 2, none⟩ = some (.slice a3 d3.length c3) := hb9.cell 2
              simp [execOp, Act.eval, e5, q0, q1, q2, go_sem]
            · refine opW_want (s := 67) rfl rfl rfl (by kernel_rfl) rfl (op_val (d := 69) rfl (.agg #[.int .i64 y0, .int .i64 y1, .int .i64 y2, .int .i64 y3, .int .i64 y4]) (fun fr9 wq hf hd hb => ⟨?_, ?_⟩) _)
              rotate_left
              · exact rfl
              have e4 : fr9.tmps.getD 4 undef = .pointer (some ⟨(w1.heap.size + 1), 0, none⟩) := hf 4 (by kernel_rfl)
              have hb9 := Fb6.out.keep hb
              have q0 : wq.cell? ⟨(w1.heap.size + 1), 0, none⟩ = some (.int .i64 y0) := hb9.cell 0
              have q1 : wq.cell? ⟨(w1.heap.size + 1), 1, none⟩ = some (.int .i64 y1) := hb9.cell 1
              have q2 : wq.cell? ⟨(w1.heap.size + 1), 2, none⟩ = some (.int .i64 y2) := hb9.cell 2
              have q3 : wq.cell? ⟨(w1.heap.size + 1), 3, none⟩ = some (.int .i64 y3) := hb9.cell 3
              have q4 : wq.cell? ⟨(w1.heap.size + 1), 4, none⟩ = some (.int .i64 y4) := hb9.cell 4
              simp [execOp, Act.eval, e4, q0, q1, q2, q3, q4, go_sem]
            · refine opW_want (s := 67) rfl rfl rfl (by kernel_rfl) rfl ?_
              intro fr9 wq hf hd hb
              have e68 : fr9.tmps.getD 68 undef = .agg #[.int .i64 d1, .int .i64 d2, .slice a3 d3.length c3] := hd 68 (by kernel_rfl)
              have e69 : fr9.tmps.getD 69 undef = .agg #[.int .i64 y0, .int .i64 y1, .int .i64 y2, .int .i64 y3, .int .i64 y4] := hd 69 (by kernel_rfl)
              have hv9 : (#[Operand.tmp 68, Operand.tmp 69] : Array Operand).map fr9.eval = #[.agg #[.int .i64 d1, .int .i64 d2, .slice a3 d3.length c3], .agg #[.int .i64 y0, .int .i64 y1, .int .i64 y2, .int .i64 y3, .int .i64 y4]] := by simp only [List.map_toArray, List.map_cons, List.map_nil, Act.eval, e68, e69]
              refine ⟨70, rfl, op_call rfl (run_callL _ _ _ 41 _ _ _ rfl rfl hv9 (enters_of Try.func41 (by kernel_rfl) rfl)) ?_⟩
              refine (c_FindFlow d1 d2 (y0, y1, y2, y3, y4) a3 d3.length c3 d3 wq rfl HDL.out (X6.out.below hb)).mono ?_
              rintro e w5 ⟨rfl, g5⟩
              exact ⟨_, rfl, _, rfl, (congrArg (Value.int .i64) HG.out), g5⟩
            · refine opW_want (s := 67) rfl rfl rfl (by kernel_rfl) rfl (op_val (d := 71) rfl (.bool true) (fun fr9 wq hf hd hb => ⟨?_, ?_⟩) _)
              rotate_left
              · exact rfl
              have e70 : fr9.tmps.getD 70 undef = .int .i64 (-1) := hd 70 (by kernel_rfl)
              simp [execOp, Act.eval, e70, go_sem]
            · refine opW_free rfl rfl (op_val (d := 72) rfl (.bool true) (fun fr9 wq hf hd hb => ⟨?_, ?_⟩) _)
              rotate_left
              · exact rfl
              have e67 : fr9.tmps.getD 67 undef = .bool true := hd 67 (by kernel_rfl)
              have e71 : fr9.tmps.getD 71 undef = .bool true := hd 71 (by kernel_rfl)
              simp [execOp, Act.eval, e67, e71, go_sem]
            · refine opW_free rfl rfl (op_val (d := 73) rfl (.bool true) (fun fr9 wq hf hd hb => ⟨?_, ?_⟩) _)
              rotate_left
              · exact rfl
              have e72 : fr9.tmps.getD 72 undef = .bool true := hd 72 (by kernel_rfl)
              exact (run_mv _ _ _ (.tmp 72) _ e72).1 rfl
            · refine opW_want (s := 73) rfl rfl rfl (by kernel_rfl) rfl (op_val (d := 74) rfl (.agg #[.int .i64 d1, .int .i64 d2, .slice a3 d3.length c3]) (fun fr9 wq hf hd hb => ⟨?_, ?_⟩) _)
              rotate_left
              · exact rfl
              have e5 : fr9.tmps.getD 5 undef = .pointer (some ⟨w3.heap.size, 0, none⟩) := hf 5 (by kernel_rfl)
              have hb9 := B6.out.keep hb
              have q0 : wq.cell? ⟨w3.heap.size, 0, none⟩ = some (.int .i64 d1) := hb9.cell 0
              have q1 : wq.cell? ⟨w3.heap.size, 1, none⟩ = some (.int .i64 d2) := hb9.cell 1
              have q2 : wq.cell? ⟨w3.heap.size, 2, none⟩ = some (.slice a3 d3.length c3) := hb9.cell 2
              simp [execOp, Act.eval, e5, q0, q1, q2, go_sem]
            · refine opW_want (s := 73) rfl rfl rfl (by kernel_rfl) rfl (op_val (d := 75) rfl (.agg #[.int .i64 y0, .int .i64 y1, .int .i64 y2, .int .i64 y3, .int .i64 y4]) (fun fr9 wq hf hd hb => ⟨?_, ?_⟩) _)
              rotate_left
              · exact rfl
              have e4 : fr9.tmps.getD 4 undef = .pointer (some ⟨(w1.heap.size + 1), 0, none⟩) := hf 4 (by kernel_rfl)
              have hb9 := Fb6.out.keep hb
              have q0 : wq.cell? ⟨(w1.heap.size + 1), 0, none⟩ = some (.int .i64 y0) := hb9.cell 0
              have q1 : wq.cell? ⟨(w1.heap.size + 1), 1, none⟩ = some (.int .i64 y1) := hb9.cell 1
              have q2 : wq.cell? ⟨(w1.heap.size + 1), 2, none⟩ = some (.int .i64 y2) := hb9.cell 2
              have q3 : wq.cell? ⟨(w1.heap.size + 1), 3, none⟩ = some (.int .i64 y3) := hb9.cell 3
              have q4 : wq.cell? ⟨(w1.heap.size + 1), 4, none⟩ = some (.int .i64 y4) := hb9.cell 4
              simp [execOp, Act.eval, e4, q0, q1, q2, q3, q4, go_sem]
            · refine opW_want (s := 73) rfl rfl rfl (by kernel_rfl) rfl ?_
              intro fr9 wq hf hd hb
              have e74 : fr9.tmps.getD 74 undef = .agg #[.int .i64 d1, .int .i64 d2, .slice a3 d3.length c3] := hd 74 (by kernel_rfl)
              have e75 : fr9.tmps.getD 75 undef = .agg #[.int .i64 y0, .int .i64 y1, .int .i64 y2, .int .i64 y3, .int .i64 y4] := hd 75 (by kernel_rfl)
              have hv9 : (#[Operand.tmp 74, Operand.tmp 75] : Array Operand).map fr9.eval = #[.agg #[.int .i64 d1, .int .i64 d2, .slice a3 d3.length c3], .agg #[.int .i64 y0, .int .i64 y1, .int .i64 y2, .int .i64 y3, .int .i64 y4]] := by simp only [List.map_toArray, List.map_cons, List.map_nil, Act.eval, e74, e75]
              refine ⟨76, rfl, op_call rfl (run_callL _ _ _ 43 _ _ _ rfl rfl hv9 (enters_of Try.func43 (by kernel_rfl) rfl)) ?_⟩
              refine (c_Drop_r HT.out a3 d3.length c3 wq rfl HDL.out (X6.out.below hb) Xz.out).mono ?_
              rintro e w5 ⟨a5, c5, rfl, o5, g5⟩
              exact ⟨_, rfl, _, rfl, ⟨a5, c5, rfl, row_wider o5 hb.size⟩, grown_below g5⟩
            · refine opW_want (s := 73) rfl rfl rfl (by kernel_rfl) rfl (op_val (d := 77) rfl (.agg #[.int .i64 d1, .int .i64 d2, .slice a3 d3.length c3]) (fun fr9 wq hf hd hb => ⟨?_, ?_⟩) _)
              rotate_left
              · exact rfl
              have e5 : fr9.tmps.getD 5 undef = .pointer (some ⟨w3.heap.size, 0, none⟩) := hf 5 (by kernel_rfl)
              have hb9 := B6.out.keep hb
              have q0 : wq.cell? ⟨w3.heap.size, 0, none⟩ = some (.int .i64 d1) := hb9.cell 0
              have q1 : wq.cell? ⟨w3.heap.size, 1, none⟩ = some (.int .i64 d2) := hb9.cell 1
              have q2 : wq.cell? ⟨w3.heap.size, 2, none⟩ = some (.slice a3 d3.length c3) := hb9.cell 2
              simp [execOp, Act.eval, e5, q0, q1, q2, go_sem]
            · refine opW_want (s := 73) rfl rfl rfl (by kernel_rfl) rfl ?_
              intro fr9 wq hf hd hb
              obtain ⟨a76, c76, e76, o76⟩ : ∃ (a2 : Option Addr) (c2 : Nat), fr9.tmps.getD 76 undef = .agg #[.int .i64 d1, .int .i64 d2, .slice a2 (d3.length) c2] ∧ wq.ownsRow w6.heap.size 69 7 (.slice a2 (d3.length) c2) (d3.length) (eCells d3) := hd 76 (by kernel_rfl)
              have e77 : fr9.tmps.getD 77 undef = .agg #[.int .i64 d1, .int .i64 d2, .slice a3 d3.length c3] := hd 77 (by kernel_rfl)
              have hv9 : (#[Operand.tmp 76, Operand.tmp 77] : Array Operand).map fr9.eval = #[.agg #[.int .i64 d1, .int .i64 d2, .slice a76 (d3.length) c76], .agg #[.int .i64 d1, .int .i64 d2, .slice a3 d3.length c3]] := by simp only [List.map_toArray, List.map_cons, List.map_nil, Act.eval, e76, e77]
              refine ⟨78, rfl, op_call rfl (run_callL _ _ _ 18 _ _ _ rfl rfl hv9 (enters_of Try.func18 (by kernel_rfl) rfl)) ?_⟩
              refine (c_sameTable d1 d2 a76 a3 _ c76 c3 d3 wq rfl HDL.out (EntRow.ents o76) (X6.out.below hb)).mono ?_
              rintro e w5 ⟨rfl, g5⟩
              exact ⟨_, rfl, _, rfl, rfl, g5⟩
            · refine opW_free rfl rfl (op_val (d := 79) rfl (.bool true) (fun fr9 wq hf hd hb => ⟨?_, ?_⟩) _)
              rotate_left
              · exact rfl
              have e73 : fr9.tmps.getD 73 undef = .bool true := hd 73 (by kernel_rfl)
              have e78 : fr9.tmps.getD 78 undef = .bool true := hd 78 (by kernel_rfl)
              simp [execOp, Act.eval, e73, e78, go_sem]
          · intro fq wq hf hbq
            have e65 : fq 65 = .agg #[.int .i64 d1, .int .i64 d2, .slice a3 d3.length c3] := hf 65 (by decide)
            have e66 : fq 66 = .bool true := hf 66 (by decide)
            have e67 : fq 67 = .bool true := hf 67 (by decide)
            have e68 : fq 68 = .agg #[.int .i64 d1, .int .i64 d2, .slice a3 d3.length c3] := hf 68 (by decide)
            have e69 : fq 69 = .agg #[.int .i64 y0, .int .i64 y1, .int .i64 y2, .int .i64 y3, .int .i64 y4] := hf 69 (by decide)
            have e70 : fq 70 = .int .i64 (-1) := hf 70 (by decide)
            have e71 : fq 71 = .bool true := hf 71 (by decide)
            have e72 : fq 72 = .bool true := hf 72 (by decide)
            have e73 : fq 73 = .bool true := hf 73 (by decide)
            have e74 : fq 74 = .agg #[.int .i64 d1, .int .i64 d2, .slice a3 d3.length c3] := hf 74 (by decide)
            have e75 : fq 75 = .agg #[.int .i64 y0, .int .i64 y1, .int .i64 y2, .int .i64 y3, .int .i64 y4] := hf 75 (by decide)
            obtain ⟨a76, c76, e76, o76⟩ : ∃ (a2 : Option Addr) (c2 : Nat), fq 76 = .agg #[.int .i64 d1, .int .i64 d2, .slice a2 (d3.length) c2] ∧ wq.ownsRow w6.heap.size 69 7 (.slice a2 (d3.length) c2) (d3.length) (eCells d3) := hf 76 (by decide)
            have e77 : fq 77 = .agg #[.int .i64 d1, .int .i64 d2, .slice a3 d3.length c3] := hf 77 (by decide)
            have e78 : fq 78 = .bool true := hf 78 (by decide)
            have e79 : fq 79 = .bool true := hf 79 (by decide)
            simp only [List.drop_succ_cons, List.drop_zero, putL, Act.put, List.setIfInBounds_toArray, List.set_cons_succ, List.set_cons_zero, e65, e66, e67, e68, e69, e70, e71, e72, e73, e74, e75, e76, e77, e78, e79]
            clear hf e65 e66 e67 e68 e69 e70 e71 e72 e73 e74 e75 e76 e77 e78 e79
            have QD := Lib.hid (Below.step D6.out hbq (by omega))
            clear hbq o76
            go_wp2
            go_ret
            exact ⟨rfl, QD.out⟩
end Go.Proofs.Ytdkdfehlmphikaa
