/- The walk of the law ExpireTable: it answers true whatever bytes come in. No condition. -/
import Derived.Test.YtdkdfehlmphikaaDEx
import Derived.Test.YtdkdfehlmphikaaDFn
import Derived.Test.YtdkdfehlmphikaaVer
import Derived.Test.YtdkdfehlmphikaaMG
namespace Go.Proofs.Ytdkdfehlmphikaa
open Go.RowKit
set_option maxHeartbeats 4000000 in
set_option maxRecDepth 100000 in
theorem walkExpireTable (a : Option Addr) (len cap : Nat) (z : List Int) (w : World) (w0 : IsRow .u8 w a len cap z) :
    Calls Try.prog 9 #[.slice a len cap] w fun e w' => e = .returned (.bool true) ∧ Below w.heap.size w w' := by
  obtain ⟨hcl, hcap⟩ := w0.caps
  have HC := Lib.hid w0.code
  clear w0
  have hm := hcap
  unfold maxLen at hm
  by_cases hbig : (1048576 : Int) < (len : Int)
  · go_enter Try.func9, Try.ntmps9
    go_wp2
    go_ret
    exact ⟨rfl, Below.refl _ _⟩
  go_enter Try.func9, Try.ntmps9
  go_wp2_with fail
  refine (s_DrawExpireTable a len cap w hcl hcap HC.out).mono ?_
  rintro e w1 ⟨N, R, b, c1, es, nw, rfl, hx, hcp, hnn, hI, hb⟩
  obtain ⟨n, hn⟩ : ∃ n, es.length = n := ⟨_, rfl⟩
  rw [hn] at hx hcp hnn ⊢
  have HN := Lib.hid hn
  have HNN := Lib.hid hnn
  clear hnn
  have z1 := hb.size
  have D1 := Lib.hid (hb)
  have I1 := Lib.hid (hI)
  clear hb hI
  obtain ⟨w2, hw2, b2, sz2, x2_0⟩ := head1 w1 30 [.int .i64 N, .int .i64 R, .slice b n c1]
  have HW2 := Lib.hid hw2
  have z2 := (b2).size
  have D2 := Lib.hid (Below.step D1.out b2 (by omega))
  have I2 := Lib.hid (I1.out.below b2)
  clear D1 I1
  have T2 := Lib.hid (x2_0)
  clear hw2 b2 x2_0
  obtain ⟨⟨d1, d2, d3⟩, hd⟩ : ∃ d, expT (N, R, es) nw = d := ⟨_, rfl⟩
  have HDR := Lib.hid hd
  have hn20 : n ≤ 1048576 := by omega
  have hdn : d3.length ≤ n := by have := exp_le hd; omega
  have HDL : Hid (d3.length ≤ 1048576) := Lib.hid (by omega)
  clear hn hd
  go_wp2_with fail
  rw [← HW2.out]
  refine (c_Exp_r HDR.out b n c1 _ HN.out hn20 I2.out HNN.out).mono ?_
  rintro e w3 ⟨a3, c3, rfl, o3, g3⟩
  have b3 := grown_below g3
  have z3 := (b3).size
  have D3 := Lib.hid (Below.step D2.out b3 (by omega))
  have I3 := Lib.hid (I2.out.below b3)
  have T3 := Lib.hid (T2.out.keep b3)
  clear D2 I2 T2
  have X3 := Lib.hid (EntRow.ents o3)
  have Xc := (row_cap o3).1
  have Xz := Lib.hid (own_none o3)
  clear b3 g3 o3
  obtain ⟨w4, hw4, b4, sz4, x4_0⟩ := head1 w3 30 [.int .i64 d1, .int .i64 d2, .slice a3 d3.length c3]
  have HW4 := Lib.hid hw4
  have z4 := (b4).size
  have D4 := Lib.hid (Below.step D3.out b4 (by omega))
  have I4 := Lib.hid (I3.out.below b4)
  have T4 := Lib.hid (T3.out.keep b4)
  have X4 := Lib.hid (X3.out.below b4)
  clear D3 I3 T3 X3
  have B4 := Lib.hid (x4_0)
  clear hw4 b4 x4_0
  go_upto_region 5 with fail
  rw [← HW4.out]
  refine region_anyW _ 5 87 [18, 19, 20, 21, 22] [(18, .val (.agg #[.int .i64 d1, .int .i64 d2, .slice a3 d3.length c3])), (19, .val (.agg #[.int .i64 N, .int .i64 R, .slice b n c1])), (20, .val (.int .i64 nw)), (21, .row w4.heap.size 69 7 (d3.length) (eCells d3) (fun s => .agg #[.int .i64 d1, .int .i64 d2, s])), (22, .val (.bool true))] rfl (by kernel_rfl) ?_ ?_
  · refine ⟨?_, ?_, ?_, ?_, ?_, trivial⟩
    · refine opW_free rfl rfl (op_val (d := 18) rfl (.agg #[.int .i64 d1, .int .i64 d2, .slice a3 d3.length c3]) (fun fr9 wq hf hd hb => ⟨?_, ?_⟩) _)
      rotate_left
      · exact rfl
      have e5 : fr9.tmps.getD 5 undef = .pointer (some ⟨w3.heap.size, 0, none⟩) := hf 5 (by kernel_rfl)
      have hb9 := B4.out.keep hb
      have q0 : wq.cell? ⟨w3.heap.size, 0, none⟩ = some (.int .i64 d1) := hb9.cell 0
      have q1 : wq.cell? ⟨w3.heap.size, 1, none⟩ = some (.int .i64 d2) := hb9.cell 1
      have q2 : wq.cell? ⟨w3.heap.size, 2, none⟩ = some (.slice a3 d3.length c3) := hb9.cell 2
      simp [execOp, Act.eval, e5, q0, q1, q2, go_sem]
    · refine opW_free rfl rfl (op_val (d := 19) rfl (.agg #[.int .i64 N, .int .i64 R, .slice b n c1]) (fun fr9 wq hf hd hb => ⟨?_, ?_⟩) _)
      rotate_left
      · exact rfl
      have e3 : fr9.tmps.getD 3 undef = .pointer (some ⟨w1.heap.size, 0, none⟩) := hf 3 (by kernel_rfl)
      have hb9 := T4.out.keep hb
      have q0 : wq.cell? ⟨w1.heap.size, 0, none⟩ = some (.int .i64 N) := hb9.cell 0
      have q1 : wq.cell? ⟨w1.heap.size, 1, none⟩ = some (.int .i64 R) := hb9.cell 1
      have q2 : wq.cell? ⟨w1.heap.size, 2, none⟩ = some (.slice b n c1) := hb9.cell 2
      simp [execOp, Act.eval, e3, q0, q1, q2, go_sem]
    · refine opW_free rfl rfl (op_val (d := 20) rfl (.int .i64 nw) (fun fr9 wq hf hd hb => ⟨?_, ?_⟩) _)
      rotate_left
      · exact rfl
      have e4 : fr9.tmps.getD 4 undef = .int .i64 nw := hf 4 (by kernel_rfl)
      exact (run_mv _ _ _ (.tmp 4) _ e4).1 rfl
    · refine opW_free rfl rfl ?_
      intro fr9 wq hf hd hb
      have e19 : fr9.tmps.getD 19 undef = .agg #[.int .i64 N, .int .i64 R, .slice b n c1] := hd 19 (by kernel_rfl)
      have e20 : fr9.tmps.getD 20 undef = .int .i64 nw := hd 20 (by kernel_rfl)
      have hv9 : (#[Operand.tmp 19, Operand.tmp 20] : Array Operand).map fr9.eval = #[.agg #[.int .i64 N, .int .i64 R, .slice b n c1], .int .i64 nw] := by simp only [List.map_toArray, List.map_cons, List.map_nil, Act.eval, e19, e20]
      refine ⟨21, rfl, op_call rfl (run_callL _ _ _ 51 _ _ _ rfl rfl hv9 (enters_of Try.func51 (by kernel_rfl) rfl)) ?_⟩
      refine (s_Exp_r HDR.out b n c1 wq HN.out hn20 (I4.out.below hb) HNN.out).mono ?_
      rintro e w5 ⟨a5, c5, rfl, o5, g5⟩
      exact ⟨_, rfl, _, rfl, ⟨a5, c5, rfl, row_wider o5 hb.size⟩, grown_below g5⟩
    · refine opW_free rfl rfl ?_
      intro fr9 wq hf hd hb
      have e18 : fr9.tmps.getD 18 undef = .agg #[.int .i64 d1, .int .i64 d2, .slice a3 d3.length c3] := hd 18 (by kernel_rfl)
      obtain ⟨a21, c21, e21, o21⟩ : ∃ (a2 : Option Addr) (c2 : Nat), fr9.tmps.getD 21 undef = .agg #[.int .i64 d1, .int .i64 d2, .slice a2 (d3.length) c2] ∧ wq.ownsRow w4.heap.size 69 7 (.slice a2 (d3.length) c2) (d3.length) (eCells d3) := hd 21 (by kernel_rfl)
      have hv9 : (#[Operand.tmp 18, Operand.tmp 21] : Array Operand).map fr9.eval = #[.agg #[.int .i64 d1, .int .i64 d2, .slice a3 d3.length c3], .agg #[.int .i64 d1, .int .i64 d2, .slice a21 (d3.length) c21]] := by simp only [List.map_toArray, List.map_cons, List.map_nil, Act.eval, e18, e21]
      refine ⟨22, rfl, op_call rfl (run_callL _ _ _ 18 _ _ _ rfl rfl hv9 (enters_of Try.func18 (by kernel_rfl) rfl)) ?_⟩
      refine (c_sameTable d1 d2 a3 a21 _ c3 c21 d3 wq rfl HDL.out (X4.out.below hb) (EntRow.ents o21)).mono ?_
      rintro e w5 ⟨rfl, g5⟩
      exact ⟨_, rfl, _, rfl, rfl, g5⟩
  · intro fq wq hf hbq
    have e18 : fq 18 = .agg #[.int .i64 d1, .int .i64 d2, .slice a3 d3.length c3] := hf 18 (by decide)
    have e19 : fq 19 = .agg #[.int .i64 N, .int .i64 R, .slice b n c1] := hf 19 (by decide)
    have e20 : fq 20 = .int .i64 nw := hf 20 (by decide)
    obtain ⟨a21, c21, e21, o21⟩ : ∃ (a2 : Option Addr) (c2 : Nat), fq 21 = .agg #[.int .i64 d1, .int .i64 d2, .slice a2 (d3.length) c2] ∧ wq.ownsRow w4.heap.size 69 7 (.slice a2 (d3.length) c2) (d3.length) (eCells d3) := hf 21 (by decide)
    have e22 : fq 22 = .bool true := hf 22 (by decide)
    simp only [List.drop_succ_cons, List.drop_zero, putL, Act.put, List.setIfInBounds_toArray, List.set_cons_succ, List.set_cons_zero, e18, e19, e20, e21, e22]
    clear hf e18 e19 e20 e21 e22
    clear o21
    obtain ⟨w5, rfl⟩ : ∃ W, W = wq := ⟨_, rfl⟩
    have z5 := (hbq).size
    have D5 := Lib.hid (Below.step D4.out hbq (by omega))
    have I5 := Lib.hid (I4.out.below hbq)
    have T5 := Lib.hid (T4.out.keep hbq)
    have X5 := Lib.hid (X4.out.below hbq)
    have B5 := Lib.hid (B4.out.keep hbq)
    clear D4 I4 T4 X4 B4
    clear hbq
    rcases exp_size (t := (N, R, es)) (now := nw) with ⟨_, hz⟩ | ⟨htv, hft, hz, hs⟩
    · rw [HDR.out] at hz
      simp only [Prod.mk.injEq] at hz
      obtain ⟨rfl, rfl, rfl⟩ := hz
      clear HDR
      obtain ⟨b_0, b_1, b_2, b_f⟩ := B5.out.three
      go_wp2_with fail
      refine (c_alive _).mono ?_
      rintro e w6 ⟨rfl, b6⟩
      clear b_0 b_1 b_2 b_f
      have z6 := (b6).size
      have D6 := Lib.hid (Below.step D5.out b6 (by omega))
      have I6 := Lib.hid (I5.out.below b6)
      have T6 := Lib.hid (T5.out.keep b6)
      have X6 := Lib.hid (X5.out.below b6)
      have B6 := Lib.hid (B5.out.keep b6)
      clear D5 I5 T5 X5 B5
      clear b6
      go_wp2
      go_ret
      exact ⟨rfl, D6.out⟩
    · have hz' := HDR.out.symm.trans hz
      have htv : tv N R es = true := htv
      have hft : fitB es nw = true := hft
      have hs : 1 ≤ N := hs
      simp only [Prod.mk.injEq] at hz'
      obtain ⟨rfl, rfl, hd3⟩ := hz'
      have HK : Hid (∀ e ∈ d3, findT (d1, d2, es) e.1 = e.2.1 ∧ nw - e.2.2 < d2 ∧ 0 ≤ e.2.2 ∧ e.2.2 ≤ 100000) := Lib.hid (fun e he => by
        rw [hd3] at he
        obtain ⟨h1, h2⟩ := List.mem_filter.1 he
        have h3 := inB_true.1 (tv_last htv h1)
        refine ⟨find_mem htv h1, ?_, h3.1, h3.2⟩
        simp only [oldB, Bool.not_eq_true', decide_eq_false_iff_not] at h2
        omega)
      have HV : Hid (tv d1 d2 d3 = true) := Lib.hid (by rw [hd3]; exact exp_valid htv)
      have HT : Hid (expT (d1, d2, d3) nw = (d1, d2, d3)) := Lib.hid (by rw [hd3]; exact exp_twice htv hft)
      have hnw := inB_true.1 (fit_now hft).1
      clear hz hd3 htv hft
      have hs0 : ¬ d1 = 0 := by omega
      obtain ⟨b_0, b_1, b_2, b_f⟩ := B5.out.three
      go_wp2
      clear b_0 b_1 b_2 b_f
      go_loopw [6] (fun i wr => ∃ (k : Nat), k ≤ d3.length ∧ i = .int .i64 k ∧ Below w5.heap.size w5 wr) (fun i _ => d3.length - (intOf i).toNat)
      case atStart => exact ⟨0, Nat.zero_le _, rfl, Below.refl _ _⟩
      case round =>
        obtain ⟨k, hk, rfl, hG⟩ := hrel
        obtain ⟨w6, rfl⟩ : ∃ W, W = wr := ⟨_, rfl⟩
        have z6 := (hG).size
        have D6 := Lib.hid (Below.step D5.out hG (by omega))
        have I6 := Lib.hid (I5.out.below hG)
        have T6 := Lib.hid (T5.out.keep hG)
        have X6 := Lib.hid (X5.out.below hG)
        have B6 := Lib.hid (B5.out.keep hG)
        have G6 := Lib.hid (hG)
        clear hG
        by_cases hlt : k < d3.length
        · obtain ⟨bb, off, rfl, hbl, hc⟩ := X6.out.at rfl hlt
          obtain ⟨q0, q1, q2, q3, q4, q5, q6⟩ := hc k hlt
          clear hc
          obtain ⟨hFK, hlow, hx6, hx6'⟩ := HK.out _ (getD_mem7 hlt)
          generalize hE : d3.getD k e0 = E at *
          obtain ⟨⟨x0, x1, x2, x3, x4⟩, x5, x6⟩ := E
          clear hE
          dsimp only at q0 q1 q2 q3 q4 q5 q6 hlow hx6 hx6'
          have hwr : IntKind.i64.wrap (nw - x6) = nw - x6 := IntWalk.i64_in _ (by omega)
          obtain ⟨b_0, b_1, b_2, b_f⟩ := B6.out.three
          go_upto_region 12 with fail
          clear b_0 b_1 b_2 b_f
          refine region_anyW _ 27 87 [41, 42, 43, 44, 45, 46, 47, 48, 49, 50, 51, 52, 53, 54, 55, 56, 57, 58, 59, 60, 61, 62, 63, 64, 65, 66, 67] [(41, .val (.int .i64 nw)), (42, .val (.pointer (some ⟨w3.heap.size, 2, none⟩))), (43, .val (.slice (some ⟨bb, off, none⟩) d3.length c3)), (44, .val (.int .i64 k)), (45, .val (.pointer (some ⟨bb, off + k * 7, none⟩))), (46, .val (.pointer (some ⟨bb, off + k * 7 + 6, none⟩))), (47, .val (.int .i64 x6)), (48, .val (.int .i64 (nw - x6))), (49, .val (.pointer (some ⟨w1.heap.size, 1, none⟩))), (50, .val (.int .i64 d2)), (51, .val (.bool false)), (52, .val (.bool false)), (53, .val (.agg #[.int .i64 d1, .int .i64 d2, .slice b n c1])), (54, .val (.pointer (some ⟨w3.heap.size, 2, none⟩))), (55, .val (.slice (some ⟨bb, off, none⟩) d3.length c3)), (56, .val (.int .i64 k)), (57, .val (.pointer (some ⟨bb, off + k * 7, none⟩))), (58, .val (.pointer (some ⟨bb, off + k * 7, none⟩))), (59, .val (.agg #[.int .i64 x0, .int .i64 x1, .int .i64 x2, .int .i64 x3, .int .i64 x4])), (60, .val (.int .i64 x5)), (61, .val (.pointer (some ⟨w3.heap.size, 2, none⟩))), (62, .val (.slice (some ⟨bb, off, none⟩) d3.length c3)), (63, .val (.int .i64 k)), (64, .val (.pointer (some ⟨bb, off + k * 7, none⟩))), (65, .val (.pointer (some ⟨bb, off + k * 7 + 5, none⟩))), (66, .val (.int .i64 x5)), (67, .val (.bool false))] rfl (by kernel_rfl) ?_ ?_
          · refine ⟨?_, ?_, ?_, ?_, ?_, ?_, ?_, ?_, ?_, ?_, ?_, ?_, ?_, ?_, ?_, ?_, ?_, ?_, ?_, ?_, ?_, ?_, ?_, ?_, ?_, ?_, ?_, trivial⟩
            · refine opW_free rfl rfl (op_val (d := 41) rfl (.int .i64 nw) (fun fr9 wq hf hd hb => ⟨?_, ?_⟩) _)
              rotate_left
              · exact rfl
              have e4 : fr9.tmps.getD 4 undef = .int .i64 nw := hf 4 (by kernel_rfl)
              exact (run_mv _ _ _ (.tmp 4) _ e4).1 rfl
            · refine opW_free rfl rfl (op_val (d := 42) rfl (.pointer (some ⟨w3.heap.size, 2, none⟩)) (fun fr9 wq hf hd hb => ⟨?_, ?_⟩) _)
              rotate_left
              · exact rfl
              have e5 : fr9.tmps.getD 5 undef = .pointer (some ⟨w3.heap.size, 0, none⟩) := hf 5 (by kernel_rfl)
              simp [execOp, Act.eval, e5, go_sem]
            · refine opW_free rfl rfl (op_val (d := 43) rfl (.slice (some ⟨bb, off, none⟩) d3.length c3) (fun fr9 wq hf hd hb => ⟨?_, ?_⟩) _)
              rotate_left
              · exact rfl
              have e42 : fr9.tmps.getD 42 undef = .pointer (some ⟨w3.heap.size, 2, none⟩) := hd 42 (by kernel_rfl)
              have hb9 := B6.out.keep hb
              have q9 : wq.cell? ⟨w3.heap.size, 2, none⟩ = some (.slice (some ⟨bb, off, none⟩) d3.length c3) := hb9.cell 2
              simp [execOp, Act.eval, e42, q9, go_sem]
            · refine opW_free rfl rfl (op_val (d := 44) rfl (.int .i64 k) (fun fr9 wq hf hd hb => ⟨?_, ?_⟩) _)
              rotate_left
              · exact rfl
              have e6 : fr9.tmps.getD 6 undef = .int .i64 k := hf 6 (by kernel_rfl)
              exact (run_mv _ _ _ (.tmp 6) _ e6).1 rfl
            · refine opW_free rfl rfl (op_val (d := 45) rfl (.pointer (some ⟨bb, off + k * 7, none⟩)) (fun fr9 wq hf hd hb => ⟨?_, ?_⟩) _)
              rotate_left
              · exact rfl
              have e43 : fr9.tmps.getD 43 undef = .slice (some ⟨bb, off, none⟩) d3.length c3 := hd 43 (by kernel_rfl)
              have e44 : fr9.tmps.getD 44 undef = .int .i64 k := hd 44 (by kernel_rfl)
              exact run_ixE _ _ _ (.tmp 43) (.tmp 44) bb off _ _ k hlt rfl e43 e44
            · refine opW_free rfl rfl (op_val (d := 46) rfl (.pointer (some ⟨bb, off + k * 7 + 6, none⟩)) (fun fr9 wq hf hd hb => ⟨?_, ?_⟩) _)
              rotate_left
              · exact rfl
              have e45 : fr9.tmps.getD 45 undef = .pointer (some ⟨bb, off + k * 7, none⟩) := hd 45 (by kernel_rfl)
              simp [execOp, Act.eval, e45, go_sem]
            · refine opW_free rfl rfl (op_val (d := 47) rfl (.int .i64 x6) (fun fr9 wq hf hd hb => ⟨?_, ?_⟩) _)
              rotate_left
              · exact rfl
              have e46 : fr9.tmps.getD 46 undef = .pointer (some ⟨bb, off + k * 7 + 6, none⟩) := hd 46 (by kernel_rfl)
              have q0 := (World.cell?_of_block (hb.block _ hbl)).trans q6
              simp [execOp, Act.eval, e46, q0, go_sem]
            · refine opW_free rfl rfl (op_val (d := 48) rfl (.int .i64 (nw - x6)) (fun fr9 wq hf hd hb => ⟨?_, ?_⟩) _)
              rotate_left
              · exact rfl
              have e41 : fr9.tmps.getD 41 undef = .int .i64 nw := hd 41 (by kernel_rfl)
              have e47 : fr9.tmps.getD 47 undef = .int .i64 x6 := hd 47 (by kernel_rfl)
              simp [execOp, Act.eval, e41, e47, hwr, go_sem]
            · refine opW_free rfl rfl (op_val (d := 49) rfl (.pointer (some ⟨w1.heap.size, 1, none⟩)) (fun fr9 wq hf hd hb => ⟨?_, ?_⟩) _)
              rotate_left
              · exact rfl
              have e3 : fr9.tmps.getD 3 undef = .pointer (some ⟨w1.heap.size, 0, none⟩) := hf 3 (by kernel_rfl)
              simp [execOp, Act.eval, e3, go_sem]
            · refine opW_free rfl rfl (op_val (d := 50) rfl (.int .i64 d2) (fun fr9 wq hf hd hb => ⟨?_, ?_⟩) _)
              rotate_left
              · exact rfl
              have e49 : fr9.tmps.getD 49 undef = .pointer (some ⟨w1.heap.size, 1, none⟩) := hd 49 (by kernel_rfl)
              have hb9 := T6.out.keep hb
              have q9 : wq.cell? ⟨w1.heap.size, 1, none⟩ = some (.int .i64 d2) := hb9.cell 1
              simp [execOp, Act.eval, e49, q9, go_sem]
            · refine opW_free rfl rfl (op_val (d := 51) rfl (.bool false) (fun fr9 wq hf hd hb => ⟨?_, ?_⟩) _)
              rotate_left
              · exact rfl
              have e48 : fr9.tmps.getD 48 undef = .int .i64 (nw - x6) := hd 48 (by kernel_rfl)
              have e50 : fr9.tmps.getD 50 undef = .int .i64 d2 := hd 50 (by kernel_rfl)
              simp [execOp, Act.eval, e48, e50, hlow, go_sem]
            · refine opW_free rfl rfl (op_val (d := 52) rfl (.bool false) (fun fr9 wq hf hd hb => ⟨?_, ?_⟩) _)
              rotate_left
              · exact rfl
              have e51 : fr9.tmps.getD 51 undef = .bool false := hd 51 (by kernel_rfl)
              exact (run_mv _ _ _ (.tmp 51) _ e51).1 rfl
            · refine opW_want (s := 52) rfl rfl rfl (by kernel_rfl) rfl (op_val (d := 53) rfl (.agg #[.int .i64 d1, .int .i64 d2, .slice b n c1]) (fun fr9 wq hf hd hb => ⟨?_, ?_⟩) _)
              rotate_left
              · exact rfl
              have e3 : fr9.tmps.getD 3 undef = .pointer (some ⟨w1.heap.size, 0, none⟩) := hf 3 (by kernel_rfl)
              have hb9 := T6.out.keep hb
              have q0 : wq.cell? ⟨w1.heap.size, 0, none⟩ = some (.int .i64 d1) := hb9.cell 0
              have q1 : wq.cell? ⟨w1.heap.size, 1, none⟩ = some (.int .i64 d2) := hb9.cell 1
              have q2 : wq.cell? ⟨w1.heap.size, 2, none⟩ = some (.slice b n c1) := hb9.cell 2
              simp [execOp, Act.eval, e3, q0, q1, q2, go_sem]
            · refine opW_want (s := 52) rfl rfl rfl (by kernel_rfl) rfl (op_val (d := 54) rfl (.pointer (some ⟨w3.heap.size, 2, none⟩)) (fun fr9 wq hf hd hb => ⟨?_, ?_⟩) _)
              rotate_left
              · exact rfl
              have e5 : fr9.tmps.getD 5 undef = .pointer (some ⟨w3.heap.size, 0, none⟩) := hf 5 (by kernel_rfl)
              simp [execOp, Act.eval, e5, go_sem]
            · refine opW_want (s := 52) rfl rfl rfl (by kernel_rfl) rfl (op_val (d := 55) rfl (.slice (some ⟨bb, off, none⟩) d3.length c3) (fun fr9 wq hf hd hb => ⟨?_, ?_⟩) _)
              rotate_left
              · exact rfl
              have e54 : fr9.tmps.getD 54 undef = .pointer (some ⟨w3.heap.size, 2, none⟩) := hd 54 (by kernel_rfl)
              have hb9 := B6.out.keep hb
              have q9 : wq.cell? ⟨w3.heap.size, 2, none⟩ = some (.slice (some ⟨bb, off, none⟩) d3.length c3) := hb9.cell 2
              simp [execOp, Act.eval, e54, q9, go_sem]
            · refine opW_want (s := 52) rfl rfl rfl (by kernel_rfl) rfl (op_val (d := 56) rfl (.int .i64 k) (fun fr9 wq hf hd hb => ⟨?_, ?_⟩) _)
              rotate_left
              · exact rfl
              have e6 : fr9.tmps.getD 6 undef = .int .i64 k := hf 6 (by kernel_rfl)
              exact (run_mv _ _ _ (.tmp 6) _ e6).1 rfl
            · refine opW_want (s := 52) rfl rfl rfl (by kernel_rfl) rfl (op_val (d := 57) rfl (.pointer (some ⟨bb, off + k * 7, none⟩)) (fun fr9 wq hf hd hb => ⟨?_, ?_⟩) _)
              rotate_left
              · exact rfl
              have e55 : fr9.tmps.getD 55 undef = .slice (some ⟨bb, off, none⟩) d3.length c3 := hd 55 (by kernel_rfl)
              have e56 : fr9.tmps.getD 56 undef = .int .i64 k := hd 56 (by kernel_rfl)
              exact run_ixE _ _ _ (.tmp 55) (.tmp 56) bb off _ _ k hlt rfl e55 e56
            · refine opW_want (s := 52) rfl rfl rfl (by kernel_rfl) rfl (op_val (d := 58) rfl (.pointer (some ⟨bb, off + k * 7, none⟩)) (fun fr9 wq hf hd hb => ⟨?_, ?_⟩) _)
              rotate_left
              · exact rfl
              have e57 : fr9.tmps.getD 57 undef = .pointer (some ⟨bb, off + k * 7, none⟩) := hd 57 (by kernel_rfl)
              simp [execOp, Act.eval, e57, go_sem]
            · refine opW_want (s := 52) rfl rfl rfl (by kernel_rfl) rfl (op_val (d := 59) rfl (.agg #[.int .i64 x0, .int .i64 x1, .int .i64 x2, .int .i64 x3, .int .i64 x4]) (fun fr9 wq hf hd hb => ⟨?_, ?_⟩) _)
              rotate_left
              · exact rfl
              have e58 : fr9.tmps.getD 58 undef = .pointer (some ⟨bb, off + k * 7, none⟩) := hd 58 (by kernel_rfl)
              have q0 := (World.cell?_of_block (hb.block _ hbl)).trans q0
              have q1 := (World.cell?_of_block (hb.block _ hbl)).trans q1
              have q2 := (World.cell?_of_block (hb.block _ hbl)).trans q2
              have q3 := (World.cell?_of_block (hb.block _ hbl)).trans q3
              have q4 := (World.cell?_of_block (hb.block _ hbl)).trans q4
              simp [execOp, Act.eval, e58, q0, q1, q2, q3, q4, go_sem]
            · refine opW_want (s := 52) rfl rfl rfl (by kernel_rfl) rfl ?_
              intro fr9 wq hf hd hb
              have e53 : fr9.tmps.getD 53 undef = .agg #[.int .i64 d1, .int .i64 d2, .slice b n c1] := hd 53 (by kernel_rfl)
              have e59 : fr9.tmps.getD 59 undef = .agg #[.int .i64 x0, .int .i64 x1, .int .i64 x2, .int .i64 x3, .int .i64 x4] := hd 59 (by kernel_rfl)
              have hv9 : (#[Operand.tmp 53, Operand.tmp 59] : Array Operand).map fr9.eval = #[.agg #[.int .i64 d1, .int .i64 d2, .slice b n c1], .agg #[.int .i64 x0, .int .i64 x1, .int .i64 x2, .int .i64 x3, .int .i64 x4]] := by simp only [List.map_toArray, List.map_cons, List.map_nil, Act.eval, e53, e59]
              refine ⟨60, rfl, op_call rfl (run_callL _ _ _ 41 _ _ _ rfl rfl hv9 (enters_of Try.func41 (by kernel_rfl) rfl)) ?_⟩
              refine (c_FindFlow d1 d2 (x0, x1, x2, x3, x4) b n c1 es wq HN.out hn20 (I6.out.below hb)).mono ?_
              rintro e w5 ⟨rfl, g5⟩
              exact ⟨_, rfl, _, rfl, (congrArg (Value.int .i64) hFK), g5⟩
            · refine opW_want (s := 52) rfl rfl rfl (by kernel_rfl) rfl (op_val (d := 61) rfl (.pointer (some ⟨w3.heap.size, 2, none⟩)) (fun fr9 wq hf hd hb => ⟨?_, ?_⟩) _)
              rotate_left
              · exact rfl
              have e5 : fr9.tmps.getD 5 undef = .pointer (some ⟨w3.heap.size, 0, none⟩) := hf 5 (by kernel_rfl)
              simp [execOp, Act.eval, e5, go_sem]
            · refine opW_want (s := 52) rfl rfl rfl (by kernel_rfl) rfl (op_val (d := 62) rfl (.slice (some ⟨bb, off, none⟩) d3.length c3) (fun fr9 wq hf hd hb => ⟨?_, ?_⟩) _)
              rotate_left
              · exact rfl
              have e61 : fr9.tmps.getD 61 undef = .pointer (some ⟨w3.heap.size, 2, none⟩) := hd 61 (by kernel_rfl)
              have hb9 := B6.out.keep hb
              have q9 : wq.cell? ⟨w3.heap.size, 2, none⟩ = some (.slice (some ⟨bb, off, none⟩) d3.length c3) := hb9.cell 2
              simp [execOp, Act.eval, e61, q9, go_sem]
            · refine opW_want (s := 52) rfl rfl rfl (by kernel_rfl) rfl (op_val (d := 63) rfl (.int .i64 k) (fun fr9 wq hf hd hb => ⟨?_, ?_⟩) _)
              rotate_left
              · exact rfl
              have e6 : fr9.tmps.getD 6 undef = .int .i64 k := hf 6 (by kernel_rfl)
              exact (run_mv _ _ _ (.tmp 6) _ e6).1 rfl
            · refine opW_want (s := 52) rfl rfl rfl (by kernel_rfl) rfl (op_val (d := 64) rfl (.pointer (some ⟨bb, off + k * 7, none⟩)) (fun fr9 wq hf hd hb => ⟨?_, ?_⟩) _)
              rotate_left
              · exact rfl
              have e62 : fr9.tmps.getD 62 undef = .slice (some ⟨bb, off, none⟩) d3.length c3 := hd 62 (by kernel_rfl)
              have e63 : fr9.tmps.getD 63 undef = .int .i64 k := hd 63 (by kernel_rfl)
              exact run_ixE _ _ _ (.tmp 62) (.tmp 63) bb off _ _ k hlt rfl e62 e63
            · refine opW_want (s := 52) rfl rfl rfl (by kernel_rfl) rfl (op_val (d := 65) rfl (.pointer (some ⟨bb, off + k * 7 + 5, none⟩)) (fun fr9 wq hf hd hb => ⟨?_, ?_⟩) _)
              rotate_left
              · exact rfl
              have e64 : fr9.tmps.getD 64 undef = .pointer (some ⟨bb, off + k * 7, none⟩) := hd 64 (by kernel_rfl)
              simp [execOp, Act.eval, e64, go_sem]
            · refine opW_want (s := 52) rfl rfl rfl (by kernel_rfl) rfl (op_val (d := 66) rfl (.int .i64 x5) (fun fr9 wq hf hd hb => ⟨?_, ?_⟩) _)
              rotate_left
              · exact rfl
              have e65 : fr9.tmps.getD 65 undef = .pointer (some ⟨bb, off + k * 7 + 5, none⟩) := hd 65 (by kernel_rfl)
              have q0 := (World.cell?_of_block (hb.block _ hbl)).trans q5
              simp [execOp, Act.eval, e65, q0, go_sem]
            · refine opW_want (s := 52) rfl rfl rfl (by kernel_rfl) rfl (op_val (d := 67) rfl (.bool false) (fun fr9 wq hf hd hb => ⟨?_, ?_⟩) _)
              rotate_left
              · exact rfl
              have e60 : fr9.tmps.getD 60 undef = .int .i64 x5 := hd 60 (by kernel_rfl)
              have e66 : fr9.tmps.getD 66 undef = .int .i64 x5 := hd 66 (by kernel_rfl)
              simp [execOp, Act.eval, e60, e66, go_sem]
          · intro fq wq hf hbq
            have e41 : fq 41 = .int .i64 nw := hf 41 (by decide)
            have e42 : fq 42 = .pointer (some ⟨w3.heap.size, 2, none⟩) := hf 42 (by decide)
            have e43 : fq 43 = .slice (some ⟨bb, off, none⟩) d3.length c3 := hf 43 (by decide)
            have e44 : fq 44 = .int .i64 k := hf 44 (by decide)
            have e45 : fq 45 = .pointer (some ⟨bb, off + k * 7, none⟩) := hf 45 (by decide)
            have e46 : fq 46 = .pointer (some ⟨bb, off + k * 7 + 6, none⟩) := hf 46 (by decide)
            have e47 : fq 47 = .int .i64 x6 := hf 47 (by decide)
            have e48 : fq 48 = .int .i64 (nw - x6) := hf 48 (by decide)
            have e49 : fq 49 = .pointer (some ⟨w1.heap.size, 1, none⟩) := hf 49 (by decide)
            have e50 : fq 50 = .int .i64 d2 := hf 50 (by decide)
            have e51 : fq 51 = .bool false := hf 51 (by decide)
            have e52 : fq 52 = .bool false := hf 52 (by decide)
            have e53 : fq 53 = .agg #[.int .i64 d1, .int .i64 d2, .slice b n c1] := hf 53 (by decide)
            have e54 : fq 54 = .pointer (some ⟨w3.heap.size, 2, none⟩) := hf 54 (by decide)
            have e55 : fq 55 = .slice (some ⟨bb, off, none⟩) d3.length c3 := hf 55 (by decide)
            have e56 : fq 56 = .int .i64 k := hf 56 (by decide)
            have e57 : fq 57 = .pointer (some ⟨bb, off + k * 7, none⟩) := hf 57 (by decide)
            have e58 : fq 58 = .pointer (some ⟨bb, off + k * 7, none⟩) := hf 58 (by decide)
            have e59 : fq 59 = .agg #[.int .i64 x0, .int .i64 x1, .int .i64 x2, .int .i64 x3, .int .i64 x4] := hf 59 (by decide)
            have e60 : fq 60 = .int .i64 x5 := hf 60 (by decide)
            have e61 : fq 61 = .pointer (some ⟨w3.heap.size, 2, none⟩) := hf 61 (by decide)
            have e62 : fq 62 = .slice (some ⟨bb, off, none⟩) d3.length c3 := hf 62 (by decide)
            have e63 : fq 63 = .int .i64 k := hf 63 (by decide)
            have e64 : fq 64 = .pointer (some ⟨bb, off + k * 7, none⟩) := hf 64 (by decide)
            have e65 : fq 65 = .pointer (some ⟨bb, off + k * 7 + 5, none⟩) := hf 65 (by decide)
            have e66 : fq 66 = .int .i64 x5 := hf 66 (by decide)
            have e67 : fq 67 = .bool false := hf 67 (by decide)
            simp only [List.drop_succ_cons, List.drop_zero, putL, Act.put, List.setIfInBounds_toArray, List.set_cons_succ, List.set_cons_zero, e41, e42, e43, e44, e45, e46, e47, e48, e49, e50, e51, e52, e53, e54, e55, e56, e57, e58, e59, e60, e61, e62, e63, e64, e65, e66, e67]
            clear hf e41 e42 e43 e44 e45 e46 e47 e48 e49 e50 e51 e52 e53 e54 e55 e56 e57 e58 e59 e60 e61 e62 e63 e64 e65 e66 e67
            have QG := Lib.hid (Below.step G6.out hbq (by have := G6.out.size; omega))
            clear hbq
            go_wp2
            go_roundw
            case rel => exact ⟨k + 1, by omega, by go_num, QG.out⟩
            case measure => simp [intOf]; omega
        · have hk' : k = d3.length := by omega
          subst hk'
          obtain ⟨b_0, b_1, b_2, b_f⟩ := B6.out.three
          have hle : (d3.length : Int) ≤ (n : Int) := by omega
          go_upto_region 14 with fail
          clear b_0 b_1 b_2 b_f
          refine region_anyW _ 18 87 [69, 70, 71, 72, 73, 74, 75, 76, 77, 78, 79, 80, 81, 82, 83, 84, 85, 86] [(69, .val (.agg #[.int .i64 d1, .int .i64 d2, .slice a3 d3.length c3])), (70, .val (.bool true)), (71, .val (.bool true)), (72, .val (.agg #[.int .i64 d1, .int .i64 d2, .slice a3 d3.length c3])), (73, .val (.int .i64 nw)), (74, .row w6.heap.size 69 7 (d3.length) (eCells d3) (fun s => .agg #[.int .i64 d1, .int .i64 d2, s])), (75, .val (.agg #[.int .i64 d1, .int .i64 d2, .slice a3 d3.length c3])), (76, .val (.bool true)), (77, .val (.bool true)), (78, .val (.bool true)), (79, .val (.pointer (some ⟨w3.heap.size, 2, none⟩))), (80, .val (.slice a3 d3.length c3)), (81, .val (.int .i64 d3.length)), (82, .val (.pointer (some ⟨w1.heap.size, 2, none⟩))), (83, .val (.slice b n c1)), (84, .val (.int .i64 n)), (85, .val (.bool true)), (86, .val (.bool true))] rfl (by kernel_rfl) ?_ ?_
          · refine ⟨?_, ?_, ?_, ?_, ?_, ?_, ?_, ?_, ?_, ?_, ?_, ?_, ?_, ?_, ?_, ?_, ?_, ?_, trivial⟩
            · refine opW_free rfl rfl (op_val (d := 69) rfl (.agg #[.int .i64 d1, .int .i64 d2, .slice a3 d3.length c3]) (fun fr9 wq hf hd hb => ⟨?_, ?_⟩) _)
              rotate_left
              · exact rfl
              have e5 : fr9.tmps.getD 5 undef = .pointer (some ⟨w3.heap.size, 0, none⟩) := hf 5 (by kernel_rfl)
              have hb9 := B6.out.keep hb
              have q0 : wq.cell? ⟨w3.heap.size, 0, none⟩ = some (.int .i64 d1) := hb9.cell 0
              have q1 : wq.cell? ⟨w3.heap.size, 1, none⟩ = some (.int .i64 d2) := hb9.cell 1
              have q2 : wq.cell? ⟨w3.heap.size, 2, none⟩ = some (.slice a3 d3.length c3) := hb9.cell 2
              simp [execOp, Act.eval, e5, q0, q1, q2, go_sem]
            · refine opW_free rfl rfl ?_
              intro fr9 wq hf hd hb
              have e69 : fr9.tmps.getD 69 undef = .agg #[.int .i64 d1, .int .i64 d2, .slice a3 d3.length c3] := hd 69 (by kernel_rfl)
              have hv9 : (#[Operand.tmp 69] : Array Operand).map fr9.eval = #[.agg #[.int .i64 d1, .int .i64 d2, .slice a3 d3.length c3]] := by simp only [List.map_toArray, List.map_cons, List.map_nil, Act.eval, e69]
              refine ⟨70, rfl, op_call rfl (run_callL _ _ _ 20 _ _ _ rfl rfl hv9 (enters_of Try.func20 (by kernel_rfl) rfl)) ?_⟩
              refine (c_TableValid d1 d2 a3 d3.length c3 d3 wq rfl HDL.out (X6.out.below hb)).mono ?_
              rintro e w5 ⟨rfl, g5⟩
              exact ⟨_, rfl, _, rfl, (congrArg Value.bool HV.out), g5⟩
            · refine opW_free rfl rfl (op_val (d := 71) rfl (.bool true) (fun fr9 wq hf hd hb => ⟨?_, ?_⟩) _)
              rotate_left
              · exact rfl
              have e70 : fr9.tmps.getD 70 undef = .bool true := hd 70 (by kernel_rfl)
              exact (run_mv _ _ _ (.tmp 70) _ e70).1 rfl
            · refine opW_want (s := 71) rfl rfl rfl (by kernel_rfl) rfl (op_val (d := 72) rfl (.agg #[.int .i64 d1, .int .i64 d2, .slice a3 d3.length c3]) (fun fr9 wq hf hd hb => ⟨?_, ?_⟩) _)
              rotate_left
              · exact rfl
              have e5 : fr9.tmps.getD 5 undef = .pointer (some ⟨w3.heap.size, 0, none⟩) := hf 5 (by kernel_rfl)
              have hb9 := B6.out.keep hb
              have q0 : wq.cell? ⟨w3.heap.size, 0, none⟩ = some (.int .i64 d1) := hb9.cell 0
              have q1 : wq.cell? ⟨w3.heap.size, 1, none⟩ = some (.int .i64 d2) := hb9.cell 1
              have q2 : wq.cell? ⟨w3.heap.size, 2, none⟩ = some (.slice a3 d3.length c3) := hb9.cell 2
              simp [execOp, Act.eval, e5, q0, q1, q2, go_sem]
            · refine opW_want (s := 71) rfl rfl rfl (by kernel_rfl) rfl (op_val (d := 73) rfl (.int .i64 nw) (fun fr9 wq hf hd hb => ⟨?_, ?_⟩) _)
              rotate_left
              · exact rfl
              have e4 : fr9.tmps.getD 4 undef = .int .i64 nw := hf 4 (by kernel_rfl)
              exact (run_mv _ _ _ (.tmp 4) _ e4).1 rfl
            · refine opW_want (s := 71) rfl rfl rfl (by kernel_rfl) rfl ?_
              intro fr9 wq hf hd hb
              have e72 : fr9.tmps.getD 72 undef = .agg #[.int .i64 d1, .int .i64 d2, .slice a3 d3.length c3] := hd 72 (by kernel_rfl)
              have e73 : fr9.tmps.getD 73 undef = .int .i64 nw := hd 73 (by kernel_rfl)
              have hv9 : (#[Operand.tmp 72, Operand.tmp 73] : Array Operand).map fr9.eval = #[.agg #[.int .i64 d1, .int .i64 d2, .slice a3 d3.length c3], .int .i64 nw] := by simp only [List.map_toArray, List.map_cons, List.map_nil, Act.eval, e72, e73]
              refine ⟨74, rfl, op_call rfl (run_callL _ _ _ 50 _ _ _ rfl rfl hv9 (enters_of Try.func50 (by kernel_rfl) rfl)) ?_⟩
              refine (c_Exp_r HT.out a3 d3.length c3 wq rfl HDL.out (X6.out.below hb) Xz.out).mono ?_
              rintro e w5 ⟨a5, c5, rfl, o5, g5⟩
              exact ⟨_, rfl, _, rfl, ⟨a5, c5, rfl, row_wider o5 hb.size⟩, grown_below g5⟩
            · refine opW_want (s := 71) rfl rfl rfl (by kernel_rfl) rfl (op_val (d := 75) rfl (.agg #[.int .i64 d1, .int .i64 d2, .slice a3 d3.length c3]) (fun fr9 wq hf hd hb => ⟨?_, ?_⟩) _)
              rotate_left
              · exact rfl
              have e5 : fr9.tmps.getD 5 undef = .pointer (some ⟨w3.heap.size, 0, none⟩) := hf 5 (by kernel_rfl)
              have hb9 := B6.out.keep hb
              have q0 : wq.cell? ⟨w3.heap.size, 0, none⟩ = some (.int .i64 d1) := hb9.cell 0
              have q1 : wq.cell? ⟨w3.heap.size, 1, none⟩ = some (.int .i64 d2) := hb9.cell 1
              have q2 : wq.cell? ⟨w3.heap.size, 2, none⟩ = some (.slice a3 d3.length c3) := hb9.cell 2
              simp [execOp, Act.eval, e5, q0, q1, q2, go_sem]
            · refine opW_want (s := 71) rfl rfl rfl (by kernel_rfl) rfl ?_
              intro fr9 wq hf hd hb
              obtain ⟨a74, c74, e74, o74⟩ : ∃ (a2 : Option Addr) (c2 : Nat), fr9.tmps.getD 74 undef = .agg #[.int .i64 d1, .int .i64 d2, .slice a2 (d3.length) c2] ∧ wq.ownsRow w6.heap.size 69 7 (.slice a2 (d3.length) c2) (d3.length) (eCells d3) := hd 74 (by kernel_rfl)
              have e75 : fr9.tmps.getD 75 undef = .agg #[.int .i64 d1, .int .i64 d2, .slice a3 d3.length c3] := hd 75 (by kernel_rfl)
              have hv9 : (#[Operand.tmp 74, Operand.tmp 75] : Array Operand).map fr9.eval = #[.agg #[.int .i64 d1, .int .i64 d2, .slice a74 (d3.length) c74], .agg #[.int .i64 d1, .int .i64 d2, .slice a3 d3.length c3]] := by simp only [List.map_toArray, List.map_cons, List.map_nil, Act.eval, e74, e75]
              refine ⟨76, rfl, op_call rfl (run_callL _ _ _ 18 _ _ _ rfl rfl hv9 (enters_of Try.func18 (by kernel_rfl) rfl)) ?_⟩
              refine (c_sameTable d1 d2 a74 a3 _ c74 c3 d3 wq rfl HDL.out (EntRow.ents o74) (X6.out.below hb)).mono ?_
              rintro e w5 ⟨rfl, g5⟩
              exact ⟨_, rfl, _, rfl, rfl, g5⟩
            · refine opW_free rfl rfl (op_val (d := 77) rfl (.bool true) (fun fr9 wq hf hd hb => ⟨?_, ?_⟩) _)
              rotate_left
              · exact rfl
              have e71 : fr9.tmps.getD 71 undef = .bool true := hd 71 (by kernel_rfl)
              have e76 : fr9.tmps.getD 76 undef = .bool true := hd 76 (by kernel_rfl)
              simp [execOp, Act.eval, e71, e76, go_sem]
            · refine opW_free rfl rfl (op_val (d := 78) rfl (.bool true) (fun fr9 wq hf hd hb => ⟨?_, ?_⟩) _)
              rotate_left
              · exact rfl
              have e77 : fr9.tmps.getD 77 undef = .bool true := hd 77 (by kernel_rfl)
              exact (run_mv _ _ _ (.tmp 77) _ e77).1 rfl
            · refine opW_want (s := 78) rfl rfl rfl (by kernel_rfl) rfl (op_val (d := 79) rfl (.pointer (some ⟨w3.heap.size, 2, none⟩)) (fun fr9 wq hf hd hb => ⟨?_, ?_⟩) _)
              rotate_left
              · exact rfl
              have e5 : fr9.tmps.getD 5 undef = .pointer (some ⟨w3.heap.size, 0, none⟩) := hf 5 (by kernel_rfl)
              simp [execOp, Act.eval, e5, go_sem]
            · refine opW_want (s := 78) rfl rfl rfl (by kernel_rfl) rfl (op_val (d := 80) rfl (.slice a3 d3.length c3) (fun fr9 wq hf hd hb => ⟨?_, ?_⟩) _)
              rotate_left
              · exact rfl
              have e79 : fr9.tmps.getD 79 undef = .pointer (some ⟨w3.heap.size, 2, none⟩) := hd 79 (by kernel_rfl)
              have hb9 := B6.out.keep hb
              have q9 : wq.cell? ⟨w3.heap.size, 2, none⟩ = some (.slice a3 d3.length c3) := hb9.cell 2
              simp [execOp, Act.eval, e79, q9, go_sem]
            · refine opW_want (s := 78) rfl rfl rfl (by kernel_rfl) rfl (op_val (d := 81) rfl (.int .i64 d3.length) (fun fr9 wq hf hd hb => ⟨?_, ?_⟩) _)
              rotate_left
              · exact rfl
              have e80 : fr9.tmps.getD 80 undef = .slice a3 d3.length c3 := hd 80 (by kernel_rfl)
              exact run_lenE _ _ _ (.tmp 80) _ _ _ rfl e80
            · refine opW_want (s := 78) rfl rfl rfl (by kernel_rfl) rfl (op_val (d := 82) rfl (.pointer (some ⟨w1.heap.size, 2, none⟩)) (fun fr9 wq hf hd hb => ⟨?_, ?_⟩) _)
              rotate_left
              · exact rfl
              have e3 : fr9.tmps.getD 3 undef = .pointer (some ⟨w1.heap.size, 0, none⟩) := hf 3 (by kernel_rfl)
              simp [execOp, Act.eval, e3, go_sem]
            · refine opW_want (s := 78) rfl rfl rfl (by kernel_rfl) rfl (op_val (d := 83) rfl (.slice b n c1) (fun fr9 wq hf hd hb => ⟨?_, ?_⟩) _)
              rotate_left
              · exact rfl
              have e82 : fr9.tmps.getD 82 undef = .pointer (some ⟨w1.heap.size, 2, none⟩) := hd 82 (by kernel_rfl)
              have hb9 := T6.out.keep hb
              have q9 : wq.cell? ⟨w1.heap.size, 2, none⟩ = some (.slice b n c1) := hb9.cell 2
              simp [execOp, Act.eval, e82, q9, go_sem]
            · refine opW_want (s := 78) rfl rfl rfl (by kernel_rfl) rfl (op_val (d := 84) rfl (.int .i64 n) (fun fr9 wq hf hd hb => ⟨?_, ?_⟩) _)
              rotate_left
              · exact rfl
              have e83 : fr9.tmps.getD 83 undef = .slice b n c1 := hd 83 (by kernel_rfl)
              exact run_lenE _ _ _ (.tmp 83) _ _ _ rfl e83
            · refine opW_want (s := 78) rfl rfl rfl (by kernel_rfl) rfl (op_val (d := 85) rfl (.bool true) (fun fr9 wq hf hd hb => ⟨?_, ?_⟩) _)
              rotate_left
              · exact rfl
              have e81 : fr9.tmps.getD 81 undef = .int .i64 d3.length := hd 81 (by kernel_rfl)
              have e84 : fr9.tmps.getD 84 undef = .int .i64 n := hd 84 (by kernel_rfl)
              simp [execOp, Act.eval, e81, e84, hle, go_sem]
            · refine opW_free rfl rfl (op_val (d := 86) rfl (.bool true) (fun fr9 wq hf hd hb => ⟨?_, ?_⟩) _)
              rotate_left
              · exact rfl
              have e78 : fr9.tmps.getD 78 undef = .bool true := hd 78 (by kernel_rfl)
              have e85 : fr9.tmps.getD 85 undef = .bool true := hd 85 (by kernel_rfl)
              simp [execOp, Act.eval, e78, e85, go_sem]
          · intro fq wq hf hbq
            have e69 : fq 69 = .agg #[.int .i64 d1, .int .i64 d2, .slice a3 d3.length c3] := hf 69 (by decide)
            have e70 : fq 70 = .bool true := hf 70 (by decide)
            have e71 : fq 71 = .bool true := hf 71 (by decide)
            have e72 : fq 72 = .agg #[.int .i64 d1, .int .i64 d2, .slice a3 d3.length c3] := hf 72 (by decide)
            have e73 : fq 73 = .int .i64 nw := hf 73 (by decide)
            obtain ⟨a74, c74, e74, o74⟩ : ∃ (a2 : Option Addr) (c2 : Nat), fq 74 = .agg #[.int .i64 d1, .int .i64 d2, .slice a2 (d3.length) c2] ∧ wq.ownsRow w6.heap.size 69 7 (.slice a2 (d3.length) c2) (d3.length) (eCells d3) := hf 74 (by decide)
            have e75 : fq 75 = .agg #[.int .i64 d1, .int .i64 d2, .slice a3 d3.length c3] := hf 75 (by decide)
            have e76 : fq 76 = .bool true := hf 76 (by decide)
            have e77 : fq 77 = .bool true := hf 77 (by decide)
            have e78 : fq 78 = .bool true := hf 78 (by decide)
            have e79 : fq 79 = .pointer (some ⟨w3.heap.size, 2, none⟩) := hf 79 (by decide)
            have e80 : fq 80 = .slice a3 d3.length c3 := hf 80 (by decide)
            have e81 : fq 81 = .int .i64 d3.length := hf 81 (by decide)
            have e82 : fq 82 = .pointer (some ⟨w1.heap.size, 2, none⟩) := hf 82 (by decide)
            have e83 : fq 83 = .slice b n c1 := hf 83 (by decide)
            have e84 : fq 84 = .int .i64 n := hf 84 (by decide)
            have e85 : fq 85 = .bool true := hf 85 (by decide)
            have e86 : fq 86 = .bool true := hf 86 (by decide)
            simp only [List.drop_succ_cons, List.drop_zero, putL, Act.put, List.setIfInBounds_toArray, List.set_cons_succ, List.set_cons_zero, e69, e70, e71, e72, e73, e74, e75, e76, e77, e78, e79, e80, e81, e82, e83, e84, e85, e86]
            clear hf e69 e70 e71 e72 e73 e74 e75 e76 e77 e78 e79 e80 e81 e82 e83 e84 e85 e86
            have QD := Lib.hid (Below.step D6.out hbq (by omega))
            clear hbq o74
            go_wp2
            go_ret
            exact ⟨rfl, QD.out⟩
end Go.Proofs.Ytdkdfehlmphikaa
