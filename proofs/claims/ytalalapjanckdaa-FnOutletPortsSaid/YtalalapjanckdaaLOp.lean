/- The walk of the law OutletPorts: it answers true whatever bytes come in. No condition. -/
import Derived.Test.YtalalapjanckdaaDSo
import Derived.Test.YtalalapjanckdaaOsi
import Derived.Test.YtalalapjanckdaaOutU
import Derived.Test.YtalalapjanckdaaMG
import Derived.Test.YtalalapjanckdaaRegP
namespace Go.Proofs.Ytalalapjanckdaa
open Go.RowKit
set_option maxHeartbeats 4000000 in
set_option maxRecDepth 100000 in
theorem walkOutletPorts (a : Option Addr) (len cap : Nat) (z : List Int) (w : World) (w0 : IsRow .u8 w a len cap z) :
    Calls Try.prog 3 #[.slice a len cap] w fun e w' => e = .returned (.bool true) ∧ Below w.heap.size w w' := by
  obtain ⟨hcl, hcap⟩ := w0.caps
  have HC := Lib.hid w0.code
  clear w0
  have hm := hcap
  unfold maxLen at hm
  by_cases hbig : (1048576 : Int) < (len : Int)
  · go_enter Try.func3, Try.ntmps3
    go_wp2
    go_ret
    exact ⟨rfl, Below.refl _ _⟩
  go_enter Try.func3, Try.ntmps3
  go_wp2_with fail
  refine (s_DrawSendOut a len cap w hcl hcap HC.out).mono ?_
  rintro e w1 ⟨N, R, b, c1, fs, f, rfl, hx1, hx9, hcp, hnn, -, hI, hb⟩
  obtain ⟨n, hn⟩ : ∃ n, fs.length = n := ⟨_, rfl⟩
  rw [hn] at hx1 hx9 hcp hnn ⊢
  obtain ⟨y0, y1, y2, y3, y4⟩ := f
  unfold fvv
  have HN := Lib.hid hn
  have HNN := Lib.hid hnn
  clear hnn
  have zz1 := hb.size
  have D1 := Lib.hid (hb)
  have I1 := Lib.hid (hI)
  clear hb hI
  obtain ⟨w2, hw2, b2, sz2, x2_0, x2_1⟩ := headB w1 25 27 [.int .i64 N, .int .i64 R, .slice b n c1] [.int .i64 y0, .int .i64 y1, .int .i64 y2, .int .i64 y3, .int .i64 y4]
  have HW2 := Lib.hid hw2
  have zz2 := (b2).size
  have D2 := Lib.hid (Below.step D1.out b2 (by omega))
  have I2 := Lib.hid (I1.out.below b2)
  clear D1 I1
  have T2 := Lib.hid (x2_0)
  have Fb2 := Lib.hid (x2_1)
  clear hw2 b2 x2_0 x2_1
  obtain ⟨⟨⟨d1, d2, d3⟩, ⟨u0, u1, u2, u3, u4⟩, ok⟩, hd⟩ : ∃ d, sendT (N, R, fs) (y0, y1, y2, y3, y4) = d := ⟨_, rfl⟩
  have HDR := Lib.hid hd
  have hn20 : n ≤ 1048576 := by omega
  have HDL : Hid (d3.length ≤ 1048576) := Lib.hid (by have := (send_facts N R fs (y0, y1, y2, y3, y4)).1; rw [hd] at this; simp only at this; omega)
  clear hn hd
  go_wp2_with fail
  rw [← HW2.out]
  refine (c_Snd_r HDR.out b n c1 _ HN.out hn20 I2.out HNN.out).mono ?_
  rintro e w3 ⟨a3, c3, rfl, o3, g3⟩
  have b3 := grown_below g3
  have zz3 := (b3).size
  have D3 := Lib.hid (Below.step D2.out b3 (by omega))
  have I3 := Lib.hid (I2.out.below b3)
  have T3 := Lib.hid (T2.out.keep b3)
  have Fb3 := Lib.hid (Fb2.out.keep b3)
  clear D2 I2 T2 Fb2
  have X3 := Lib.hid (FlwRow.flws o3)
  have Xc := (row_cap o3).1
  have Xz := Lib.hid (own_none o3)
  clear b3 g3 o3
  unfold fvv
  obtain ⟨w4, hw4, b4, sz4, x4_0, x4_1⟩ := headB w3 25 27 [.int .i64 d1, .int .i64 d2, .slice a3 d3.length c3] [.int .i64 u0, .int .i64 u1, .int .i64 u2, .int .i64 u3, .int .i64 u4]
  have HW4 := Lib.hid hw4
  have zz4 := (b4).size
  have D4 := Lib.hid (Below.step D3.out b4 (by omega))
  have I4 := Lib.hid (I3.out.below b4)
  have T4 := Lib.hid (T3.out.keep b4)
  have Fb4 := Lib.hid (Fb3.out.keep b4)
  have X4 := Lib.hid (X3.out.below b4)
  clear D3 I3 T3 Fb3 X3
  have B4 := Lib.hid (x4_0)
  have U4 := Lib.hid (x4_1)
  clear hw4 b4 x4_0 x4_1
  go_upto_region 5 with fail
  rw [← HW4.out]
  obtain ⟨t_0, t_1, t_2, t_f⟩ := T4.out.three
  obtain ⟨fb_0, fb_1, fb_2, fb_3, fb_4, fb_f⟩ := Fb4.out.five
  go_wp2_with fail
  refine (s_Snd_r HDR.out b n c1 _ HN.out hn20 I4.out HNN.out).mono ?_
  rintro e w5 ⟨a5, c5, rfl, o5, g5⟩
  clear t_0 t_1 t_2 t_f fb_0 fb_1 fb_2 fb_3 fb_4 fb_f
  have b5 := grown_below g5
  have zz5 := (b5).size
  have D5 := Lib.hid (Below.step D4.out b5 (by omega))
  have I5 := Lib.hid (I4.out.below b5)
  have T5 := Lib.hid (T4.out.keep b5)
  have Fb5 := Lib.hid (Fb4.out.keep b5)
  have X5 := Lib.hid (X4.out.below b5)
  have B5 := Lib.hid (B4.out.keep b5)
  have U5 := Lib.hid (U4.out.keep b5)
  clear D4 I4 T4 Fb4 X4 B4 U4
  have Y5 := Lib.hid (FlwRow.flws o5)
  have Yc := (row_cap o5).1
  have Yz := Lib.hid (own_none o5)
  clear b5 g5 o5
  unfold fvv
  obtain ⟨w6, hw6, b6, sz6, x6_0, x6_1⟩ := headB w5 25 27 [.int .i64 d1, .int .i64 d2, .slice a5 d3.length c5] [.int .i64 u0, .int .i64 u1, .int .i64 u2, .int .i64 u3, .int .i64 u4]
  have HW6 := Lib.hid hw6
  have zz6 := (b6).size
  have D6 := Lib.hid (Below.step D5.out b6 (by omega))
  have I6 := Lib.hid (I5.out.below b6)
  have T6 := Lib.hid (T5.out.keep b6)
  have Fb6 := Lib.hid (Fb5.out.keep b6)
  have X6 := Lib.hid (X5.out.below b6)
  have B6 := Lib.hid (B5.out.keep b6)
  have U6 := Lib.hid (U5.out.keep b6)
  have Y6 := Lib.hid (Y5.out.below b6)
  clear D5 I5 T5 Fb5 X5 B5 U5 Y5
  have C6 := Lib.hid (x6_0)
  have V6 := Lib.hid (x6_1)
  clear hw6 b6 x6_0 x6_1
  go_upto_region 6 with fail
  rw [← HW6.out]
  obtain ⟨b_0, b_1, b_2, b_f⟩ := B6.out.three
  obtain ⟨c_0, c_1, c_2, c_f⟩ := C6.out.three
  go_wp2_with fail
  refine (c_sameOutlet d1 d2 a3 a5 d3.length c3 c5 d3 _ rfl HDL.out X6.out Y6.out).mono ?_
  rintro e w7 ⟨rfl, b7⟩
  clear b_0 b_1 b_2 b_f c_0 c_1 c_2 c_f
  have zz7 := (b7).size
  have D7 := Lib.hid (Below.step D6.out b7 (by omega))
  have I7 := Lib.hid (I6.out.below b7)
  have T7 := Lib.hid (T6.out.keep b7)
  have Fb7 := Lib.hid (Fb6.out.keep b7)
  have X7 := Lib.hid (X6.out.below b7)
  have B7 := Lib.hid (B6.out.keep b7)
  have U7 := Lib.hid (U6.out.keep b7)
  have Y7 := Lib.hid (Y6.out.below b7)
  have C7 := Lib.hid (C6.out.keep b7)
  have V7 := Lib.hid (V6.out.keep b7)
  clear D6 I6 T6 Fb6 X6 B6 U6 Y6 C6 V6
  clear b7
  have hqu : ∀ w, (binOp .neq 27 (.agg #[.int .i64 u0, .int .i64 u1, .int .i64 u2, .int .i64 u3, .int .i64 u4]) (.agg #[.int .i64 u0, .int .i64 u1, .int .i64 u2, .int .i64 u3, .int .i64 u4])).run Try.prog w = .ok (.bool false) w := neqF_no' rfl
  obtain ⟨u_0, u_1, u_2, u_3, u_4, u_f⟩ := U7.out.five
  obtain ⟨v_0, v_1, v_2, v_3, v_4, v_f⟩ := V7.out.five
  go_upto_region 8 with fail
  clear u_0 u_1 u_2 u_3 u_4 u_f v_0 v_1 v_2 v_3 v_4 v_f
  clear hqu
  clear C7
  clear Y7
  clear V7
  have HOK : Hid (ok = true → ∃ k : Nat, k < d3.length ∧ OV d1 d2 d3 ∧ d3.getD k z5 = (y0, y1, y2, y3, y4) ∧ u1 = d2 + (k : Int)) := Lib.hid (fun h => by
    subst h
    cases hvf : (ov N R fs && fv (y0, y1, y2, y3, y4))
    · have hz := HDR.out.symm.trans (send_zero hvf)
      simp at hz
    · simp only [Bool.and_eq_true] at hvf
      obtain ⟨hov, hfv⟩ := hvf
      rcases send_cases hov hfv with hz | ⟨k, hk, hV, hz⟩
      · replace hz := HDR.out.symm.trans hz
        simp at hz
      · replace hz := HDR.out.symm.trans hz
        simp only [Prod.mk.injEq, outF] at hz
        obtain ⟨⟨rfl, rfl, rfl⟩, ⟨rfl, rfl, rfl, rfl, rfl⟩, _⟩ := hz
        exact ⟨k, by rw [List.length_set]; exact hk, hV, by rw [getD_set5 hk, if_pos rfl], rfl⟩)
  obtain ⟨b_0, b_1, b_2, b_f⟩ := B7.out.three
  go_wp2
  clear b_0 b_1 b_2 b_f
  go_loopw [11] (fun i wr => ∃ (j : Nat), j ≤ d3.length ∧ i = .int .i64 j ∧ Hid (j = 0 ∨ ok = true) ∧ Below w7.heap.size w7 wr) (fun i _ => d3.length - (intOf i).toNat)
  case atStart => exact ⟨0, Nat.zero_le _, rfl, Lib.hid (.inl rfl), Below.refl _ _⟩
  case round =>
    obtain ⟨j, hj, rfl, hjo, hG⟩ := hrel
    obtain ⟨w8, rfl⟩ : ∃ W, W = wr := ⟨_, rfl⟩
    have zz8 := (hG).size
    have D8 := Lib.hid (Below.step D7.out hG (by omega))
    have I8 := Lib.hid (I7.out.below hG)
    have T8 := Lib.hid (T7.out.keep hG)
    have Fb8 := Lib.hid (Fb7.out.keep hG)
    have X8 := Lib.hid (X7.out.below hG)
    have B8 := Lib.hid (B7.out.keep hG)
    have U8 := Lib.hid (U7.out.keep hG)
    have G8 := Lib.hid (hG)
    clear hG
    by_cases hlt : j < d3.length
    · cases ok
      · skip
        obtain ⟨b_0, b_1, b_2, b_f⟩ := B8.out.three
        go_wp2_with fail
        refine (c_alive _).mono ?_
        rintro e w9 ⟨rfl, b9⟩
        clear b_0 b_1 b_2 b_f
        have zz9 := (b9).size
        have D9 := Lib.hid (Below.step D8.out b9 (by omega))
        have I9 := Lib.hid (I8.out.below b9)
        have T9 := Lib.hid (T8.out.keep b9)
        have Fb9 := Lib.hid (Fb8.out.keep b9)
        have X9 := Lib.hid (X8.out.below b9)
        have B9 := Lib.hid (B8.out.keep b9)
        have U9 := Lib.hid (U8.out.keep b9)
        have G9 := Lib.hid (Below.step G8.out b9 (by omega))
        clear D8 I8 T8 Fb8 X8 B8 U8 G8
        clear b9
        go_wp2
        go_ret
        exact ⟨rfl, D9.out⟩
      · obtain ⟨k, hkd, hV, hgd, rfl⟩ := HOK.out rfl
        clear HOK hjo
        have hd9 : d3.length ≤ 1048576 := HDL.out
        obtain ⟨bb, off, rfl, hbl, hc⟩ := X8.out.at rfl hlt
        obtain ⟨q0, q1, q2, q3, q4⟩ := hc j hlt
        clear hc
        by_cases hgz : d3.getD j z5 = z5
        · rw [hgz] at q0 q1 q2 q3 q4
          simp only [z5] at q0 q1 q2 q3 q4
          have hqz : ∀ w, (binOp .eql 27 (.agg #[.int .i64 0, .int .i64 0, .int .i64 0, .int .i64 0, .int .i64 0]) (.agg #[.int .i64 0, .int .i64 0, .int .i64 0, .int .i64 0, .int .i64 0])).run Try.prog w = .ok (.bool true) w := eqlF_yes' rfl
          clear hgz hgd hV hkd
          obtain ⟨b_0, b_1, b_2, b_f⟩ := B8.out.three
          go_upto_region 11 with fail
          refine region_anyW _ 15 98 [61, 62, 63, 64, 65, 66, 67, 68, 69, 70, 71, 72, 73, 74, 75] [(61, .val (.pointer (some ⟨w3.heap.size, 2, none⟩))), (62, .val (.slice (some ⟨bb, off, none⟩) d3.length c3)), (63, .val (.int .i64 j)), (64, .val (.pointer (some ⟨bb, off + j * 5, none⟩))), (65, .val (.agg #[.int .i64 0, .int .i64 0, .int .i64 0, .int .i64 0, .int .i64 0])), (66, .val (.agg #[.int .i64 0, .int .i64 0, .int .i64 0, .int .i64 0, .int .i64 0])), (67, .val (.bool true)), (68, .val (.bool true)), (69, .val (undef)), (70, .val (undef)), (71, .val (undef)), (72, .val (undef)), (73, .val (undef)), (74, .val (undef)), (75, .val (undef))] rfl (by kernel_rfl) ?_ ?_
          · refine ⟨?_, ?_, ?_, ?_, ?_, ?_, ?_, ?_, ?_, ?_, ?_, ?_, ?_, ?_, ?_, trivial⟩
            · refine opW_free rfl rfl (op_val (d := 61) rfl (.pointer (some ⟨w3.heap.size, 2, none⟩)) (fun fr9 wq hf hd hb => ⟨?_, ?_⟩) _)
              rotate_left
              · exact rfl
              have e5 : fr9.tmps.getD 5 undef = .pointer (some ⟨w3.heap.size, 0, none⟩) := hf 5 (by kernel_rfl)
              simp [execOp, Act.eval, e5, go_sem]
            · refine opW_free rfl rfl (op_val (d := 62) rfl (.slice (some ⟨bb, off, none⟩) d3.length c3) (fun fr9 wq hf hd hb => ⟨?_, ?_⟩) _)
              rotate_left
              · exact rfl
              have e61 : fr9.tmps.getD 61 undef = .pointer (some ⟨w3.heap.size, 2, none⟩) := hd 61 (by kernel_rfl)
              have hb9 := B8.out.keep hb
              have q9 : wq.cell? ⟨w3.heap.size, 2, none⟩ = some (.slice (some ⟨bb, off, none⟩) d3.length c3) := hb9.cell 2
              simp [execOp, Act.eval, e61, q9, go_sem]
            · refine opW_free rfl rfl (op_val (d := 63) rfl (.int .i64 j) (fun fr9 wq hf hd hb => ⟨?_, ?_⟩) _)
              rotate_left
              · exact rfl
              have e11 : fr9.tmps.getD 11 undef = .int .i64 j := hf 11 (by kernel_rfl)
              exact (run_mv _ _ _ (.tmp 11) _ e11).1 rfl
            · refine opW_free rfl rfl (op_val (d := 64) rfl (.pointer (some ⟨bb, off + j * 5, none⟩)) (fun fr9 wq hf hd hb => ⟨?_, ?_⟩) _)
              rotate_left
              · exact rfl
              have e62 : fr9.tmps.getD 62 undef = .slice (some ⟨bb, off, none⟩) d3.length c3 := hd 62 (by kernel_rfl)
              have e63 : fr9.tmps.getD 63 undef = .int .i64 j := hd 63 (by kernel_rfl)
              exact run_ixF _ _ _ (.tmp 62) (.tmp 63) bb off _ _ j hlt rfl e62 e63
            · refine opW_free rfl rfl (op_val (d := 65) rfl (.agg #[.int .i64 0, .int .i64 0, .int .i64 0, .int .i64 0, .int .i64 0]) (fun fr9 wq hf hd hb => ⟨?_, ?_⟩) _)
              rotate_left
              · exact rfl
              have e64 : fr9.tmps.getD 64 undef = .pointer (some ⟨bb, off + j * 5, none⟩) := hd 64 (by kernel_rfl)
              have q0 := (World.cell?_of_block (hb.block _ hbl)).trans q0
              have q1 := (World.cell?_of_block (hb.block _ hbl)).trans q1
              have q2 := (World.cell?_of_block (hb.block _ hbl)).trans q2
              have q3 := (World.cell?_of_block (hb.block _ hbl)).trans q3
              have q4 := (World.cell?_of_block (hb.block _ hbl)).trans q4
              simp [execOp, Act.eval, e64, q0, q1, q2, q3, q4, go_sem]
            · refine opW_free rfl rfl (op_val (d := 66) rfl (.agg #[.int .i64 0, .int .i64 0, .int .i64 0, .int .i64 0, .int .i64 0]) (fun fr9 wq hf hd hb => ⟨?_, ?_⟩) _)
              rotate_left
              · exact rfl
              simp [execOp, go_sem]
            · refine opW_free rfl rfl (op_val (d := 67) rfl (.bool true) (fun fr9 wq hf hd hb => ⟨?_, ?_⟩) _)
              rotate_left
              · exact rfl
              have e65 : fr9.tmps.getD 65 undef = .agg #[.int .i64 0, .int .i64 0, .int .i64 0, .int .i64 0, .int .i64 0] := hd 65 (by kernel_rfl)
              have e66 : fr9.tmps.getD 66 undef = .agg #[.int .i64 0, .int .i64 0, .int .i64 0, .int .i64 0, .int .i64 0] := hd 66 (by kernel_rfl)
              simp [execOp, Act.eval, e65, e66, hqz, go_sem]
            · refine opW_free rfl rfl (op_val (d := 68) rfl (.bool true) (fun fr9 wq hf hd hb => ⟨?_, ?_⟩) _)
              rotate_left
              · exact rfl
              have e67 : fr9.tmps.getD 67 undef = .bool true := hd 67 (by kernel_rfl)
              exact (run_mv _ _ _ (.tmp 67) _ e67).1 rfl
            · exact opW_skip (d := 69) (s := 68) (b := true) rfl rfl rfl rfl (by kernel_rfl) rfl (by decide) rfl
            · exact opW_skip (d := 70) (s := 68) (b := true) rfl rfl rfl rfl (by kernel_rfl) rfl (by decide) rfl
            · exact opW_skip (d := 71) (s := 68) (b := true) rfl rfl rfl rfl (by kernel_rfl) rfl (by decide) rfl
            · exact opW_skip (d := 72) (s := 68) (b := true) rfl rfl rfl rfl (by kernel_rfl) rfl (by decide) rfl
            · exact opW_skip (d := 73) (s := 68) (b := true) rfl rfl rfl rfl (by kernel_rfl) rfl (by decide) rfl
            · exact opW_skip (d := 74) (s := 68) (b := true) rfl rfl rfl rfl (by kernel_rfl) rfl (by decide) rfl
            · exact opW_skip (d := 75) (s := 68) (b := true) rfl rfl rfl rfl (by kernel_rfl) rfl (by decide) rfl
          · intro fq wq hf hbq
            have e61 : fq 61 = .pointer (some ⟨w3.heap.size, 2, none⟩) := hf 61 (by decide)
            have e62 : fq 62 = .slice (some ⟨bb, off, none⟩) d3.length c3 := hf 62 (by decide)
            have e63 : fq 63 = .int .i64 j := hf 63 (by decide)
            have e64 : fq 64 = .pointer (some ⟨bb, off + j * 5, none⟩) := hf 64 (by decide)
            have e65 : fq 65 = .agg #[.int .i64 0, .int .i64 0, .int .i64 0, .int .i64 0, .int .i64 0] := hf 65 (by decide)
            have e66 : fq 66 = .agg #[.int .i64 0, .int .i64 0, .int .i64 0, .int .i64 0, .int .i64 0] := hf 66 (by decide)
            have e67 : fq 67 = .bool true := hf 67 (by decide)
            have e68 : fq 68 = .bool true := hf 68 (by decide)
            have e69 : fq 69 = undef := hf 69 (by decide)
            have e70 : fq 70 = undef := hf 70 (by decide)
            have e71 : fq 71 = undef := hf 71 (by decide)
            have e72 : fq 72 = undef := hf 72 (by decide)
            have e73 : fq 73 = undef := hf 73 (by decide)
            have e74 : fq 74 = undef := hf 74 (by decide)
            have e75 : fq 75 = undef := hf 75 (by decide)
            simp only [List.drop_succ_cons, List.drop_zero, putL, Act.put, List.setIfInBounds_toArray, List.set_cons_succ, List.set_cons_zero, e61, e62, e63, e64, e65, e66, e67, e68, e69, e70, e71, e72, e73, e74, e75]
            clear hf e61 e62 e63 e64 e65 e66 e67 e68 e69 e70 e71 e72 e73 e74 e75
            have QG := Lib.hid (Below.step G8.out hbq (by have := G8.out.size; omega))
            clear hbq
            go_wp2
            go_roundw
            case rel => exact ⟨j + 1, by omega, by go_num, Lib.hid (.inr trivial), QG.out⟩
            case measure => simp [intOf]; omega
        · have hsa := send_again hV hlt hgz
          have HJK : Hid (d3.getD j z5 ≠ (y0, y1, y2, y3, y4) → ¬ j = k) := Lib.hid (fun h e => h (by rw [e]; exact hgd))
          generalize hE : d3.getD j z5 = E at *
          obtain ⟨x0, x1, x2, x3, x4⟩ := E
          dsimp only [outF] at q0 q1 q2 q3 q4 hsa
          have hqz : ∀ w, (binOp .eql 27 (.agg #[.int .i64 x0, .int .i64 x1, .int .i64 x2, .int .i64 x3, .int .i64 x4]) (.agg #[.int .i64 0, .int .i64 0, .int .i64 0, .int .i64 0, .int .i64 0])).run Try.prog w = .ok (.bool false) w := eqlF_no' hgz
          have HSA := Lib.hid hsa
          clear hsa hE hgz hgd hV hkd
          by_cases hq : ((x0, x1, x2, x3, x4) : F5) = (y0, y1, y2, y3, y4)
          · have hqs : ∀ w, (binOp .eql 27 (.agg #[.int .i64 x0, .int .i64 x1, .int .i64 x2, .int .i64 x3, .int .i64 x4]) (.agg #[.int .i64 y0, .int .i64 y1, .int .i64 y2, .int .i64 y3, .int .i64 y4])).run Try.prog w = .ok (.bool true) w := eqlF_yes' hq
            clear hq HJK HSA
            obtain ⟨b_0, b_1, b_2, b_f⟩ := B8.out.three
            go_upto_region 11 with fail
            refine region_anyW _ 15 98 [61, 62, 63, 64, 65, 66, 67, 68, 69, 70, 71, 72, 73, 74, 75] [(61, .val (.pointer (some ⟨w3.heap.size, 2, none⟩))), (62, .val (.slice (some ⟨bb, off, none⟩) d3.length c3)), (63, .val (.int .i64 j)), (64, .val (.pointer (some ⟨bb, off + j * 5, none⟩))), (65, .val (.agg #[.int .i64 x0, .int .i64 x1, .int .i64 x2, .int .i64 x3, .int .i64 x4])), (66, .val (.agg #[.int .i64 0, .int .i64 0, .int .i64 0, .int .i64 0, .int .i64 0])), (67, .val (.bool false)), (68, .val (.bool false)), (69, .val (.pointer (some ⟨w3.heap.size, 2, none⟩))), (70, .val (.slice (some ⟨bb, off, none⟩) d3.length c3)), (71, .val (.int .i64 j)), (72, .val (.pointer (some ⟨bb, off + j * 5, none⟩))), (73, .val (.agg #[.int .i64 x0, .int .i64 x1, .int .i64 x2, .int .i64 x3, .int .i64 x4])), (74, .val (.agg #[.int .i64 y0, .int .i64 y1, .int .i64 y2, .int .i64 y3, .int .i64 y4])), (75, .val (.bool true))] rfl (by kernel_rfl) ?_ ?_
            · refine ⟨?_, ?_, ?_, ?_, ?_, ?_, ?_, ?_, ?_, ?_, ?_, ?_, ?_, ?_, ?_, trivial⟩
              · refine opW_free rfl rfl (op_val (d := 61) rfl (.pointer (some ⟨w3.heap.size, 2, none⟩)) (fun fr9 wq hf hd hb => ⟨?_, ?_⟩) _)
                rotate_left
                · exact rfl
                have e5 : fr9.tmps.getD 5 undef = .pointer (some ⟨w3.heap.size, 0, none⟩) := hf 5 (by kernel_rfl)
                simp [execOp, Act.eval, e5, go_sem]
              · refine opW_free rfl rfl (op_val (d := 62) rfl (.slice (some ⟨bb, off, none⟩) d3.length c3) (fun fr9 wq hf hd hb => ⟨?_, ?_⟩) _)
                rotate_left
                · exact rfl
                have e61 : fr9.tmps.getD 61 undef = .pointer (some ⟨w3.heap.size, 2, none⟩) := hd 61 (by kernel_rfl)
                have hb9 := B8.out.keep hb
                have q9 : wq.cell? ⟨w3.heap.size, 2, none⟩ = some (.slice (some ⟨bb, off, none⟩) d3.length c3) := hb9.cell 2
                simp [execOp, Act.eval, e61, q9, go_sem]
              · refine opW_free rfl rfl (op_val (d := 63) rfl (.int .i64 j) (fun fr9 wq hf hd hb => ⟨?_, ?_⟩) _)
                rotate_left
                · exact rfl
                have e11 : fr9.tmps.getD 11 undef = .int .i64 j := hf 11 (by kernel_rfl)
                exact (run_mv _ _ _ (.tmp 11) _ e11).1 rfl
              · refine opW_free rfl rfl (op_val (d := 64) rfl (.pointer (some ⟨bb, off + j * 5, none⟩)) (fun fr9 wq hf hd hb => ⟨?_, ?_⟩) _)
                rotate_left
                · exact rfl
                have e62 : fr9.tmps.getD 62 undef = .slice (some ⟨bb, off, none⟩) d3.length c3 := hd 62 (by kernel_rfl)
                have e63 : fr9.tmps.getD 63 undef = .int .i64 j := hd 63 (by kernel_rfl)
                exact run_ixF _ _ _ (.tmp 62) (.tmp 63) bb off _ _ j hlt rfl e62 e63
              · refine opW_free rfl rfl (op_val (d := 65) rfl (.agg #[.int .i64 x0, .int .i64 x1, .int .i64 x2, .int .i64 x3, .int .i64 x4]) (fun fr9 wq hf hd hb => ⟨?_, ?_⟩) _)
                rotate_left
                · exact rfl
                have e64 : fr9.tmps.getD 64 undef = .pointer (some ⟨bb, off + j * 5, none⟩) := hd 64 (by kernel_rfl)
                have q0 := (World.cell?_of_block (hb.block _ hbl)).trans q0
                have q1 := (World.cell?_of_block (hb.block _ hbl)).trans q1
                have q2 := (World.cell?_of_block (hb.block _ hbl)).trans q2
                have q3 := (World.cell?_of_block (hb.block _ hbl)).trans q3
                have q4 := (World.cell?_of_block (hb.block _ hbl)).trans q4
                simp [execOp, Act.eval, e64, q0, q1, q2, q3, q4, go_sem]
              · refine opW_free rfl rfl (op_val (d := 66) rfl (.agg #[.int .i64 0, .int .i64 0, .int .i64 0, .int .i64 0, .int .i64 0]) (fun fr9 wq hf hd hb => ⟨?_, ?_⟩) _)
                rotate_left
                · exact rfl
                simp [execOp, go_sem]
              · refine opW_free rfl rfl (op_val (d := 67) rfl (.bool false) (fun fr9 wq hf hd hb => ⟨?_, ?_⟩) _)
                rotate_left
                · exact rfl
                have e65 : fr9.tmps.getD 65 undef = .agg #[.int .i64 x0, .int .i64 x1, .int .i64 x2, .int .i64 x3, .int .i64 x4] := hd 65 (by kernel_rfl)
                have e66 : fr9.tmps.getD 66 undef = .agg #[.int .i64 0, .int .i64 0, .int .i64 0, .int .i64 0, .int .i64 0] := hd 66 (by kernel_rfl)
                simp [execOp, Act.eval, e65, e66, hqz, go_sem]
              · refine opW_free rfl rfl (op_val (d := 68) rfl (.bool false) (fun fr9 wq hf hd hb => ⟨?_, ?_⟩) _)
                rotate_left
                · exact rfl
                have e67 : fr9.tmps.getD 67 undef = .bool false := hd 67 (by kernel_rfl)
                exact (run_mv _ _ _ (.tmp 67) _ e67).1 rfl
              · refine opW_want (s := 68) rfl rfl rfl (by kernel_rfl) rfl (op_val (d := 69) rfl (.pointer (some ⟨w3.heap.size, 2, none⟩)) (fun fr9 wq hf hd hb => ⟨?_, ?_⟩) _)
                rotate_left
                · exact rfl
                have e5 : fr9.tmps.getD 5 undef = .pointer (some ⟨w3.heap.size, 0, none⟩) := hf 5 (by kernel_rfl)
                simp [execOp, Act.eval, e5, go_sem]
              · refine opW_want (s := 68) rfl rfl rfl (by kernel_rfl) rfl (op_val (d := 70) rfl (.slice (some ⟨bb, off, none⟩) d3.length c3) (fun fr9 wq hf hd hb => ⟨?_, ?_⟩) _)
                rotate_left
                · exact rfl
                have e69 : fr9.tmps.getD 69 undef = .pointer (some ⟨w3.heap.size, 2, none⟩) := hd 69 (by kernel_rfl)
                have hb9 := B8.out.keep hb
                have q9 : wq.cell? ⟨w3.heap.size, 2, none⟩ = some (.slice (some ⟨bb, off, none⟩) d3.length c3) := hb9.cell 2
                simp [execOp, Act.eval, e69, q9, go_sem]
              · refine opW_want (s := 68) rfl rfl rfl (by kernel_rfl) rfl (op_val (d := 71) rfl (.int .i64 j) (fun fr9 wq hf hd hb => ⟨?_, ?_⟩) _)
                rotate_left
                · exact rfl
                have e11 : fr9.tmps.getD 11 undef = .int .i64 j := hf 11 (by kernel_rfl)
                exact (run_mv _ _ _ (.tmp 11) _ e11).1 rfl
              · refine opW_want (s := 68) rfl rfl rfl (by kernel_rfl) rfl (op_val (d := 72) rfl (.pointer (some ⟨bb, off + j * 5, none⟩)) (fun fr9 wq hf hd hb => ⟨?_, ?_⟩) _)
                rotate_left
                · exact rfl
                have e70 : fr9.tmps.getD 70 undef = .slice (some ⟨bb, off, none⟩) d3.length c3 := hd 70 (by kernel_rfl)
                have e71 : fr9.tmps.getD 71 undef = .int .i64 j := hd 71 (by kernel_rfl)
                exact run_ixF _ _ _ (.tmp 70) (.tmp 71) bb off _ _ j hlt rfl e70 e71
              · refine opW_want (s := 68) rfl rfl rfl (by kernel_rfl) rfl (op_val (d := 73) rfl (.agg #[.int .i64 x0, .int .i64 x1, .int .i64 x2, .int .i64 x3, .int .i64 x4]) (fun fr9 wq hf hd hb => ⟨?_, ?_⟩) _)
                rotate_left
                · exact rfl
                have e72 : fr9.tmps.getD 72 undef = .pointer (some ⟨bb, off + j * 5, none⟩) := hd 72 (by kernel_rfl)
                have q0 := (World.cell?_of_block (hb.block _ hbl)).trans q0
                have q1 := (World.cell?_of_block (hb.block _ hbl)).trans q1
                have q2 := (World.cell?_of_block (hb.block _ hbl)).trans q2
                have q3 := (World.cell?_of_block (hb.block _ hbl)).trans q3
                have q4 := (World.cell?_of_block (hb.block _ hbl)).trans q4
                simp [execOp, Act.eval, e72, q0, q1, q2, q3, q4, go_sem]
              · refine opW_want (s := 68) rfl rfl rfl (by kernel_rfl) rfl (op_val (d := 74) rfl (.agg #[.int .i64 y0, .int .i64 y1, .int .i64 y2, .int .i64 y3, .int .i64 y4]) (fun fr9 wq hf hd hb => ⟨?_, ?_⟩) _)
                rotate_left
                · exact rfl
                have e4 : fr9.tmps.getD 4 undef = .pointer (some ⟨(w1.heap.size + 1), 0, none⟩) := hf 4 (by kernel_rfl)
                have hb9 := Fb8.out.keep hb
                have q0 : wq.cell? ⟨(w1.heap.size + 1), 0, none⟩ = some (.int .i64 y0) := hb9.cell 0
                have q1 : wq.cell? ⟨(w1.heap.size + 1), 1, none⟩ = some (.int .i64 y1) := hb9.cell 1
                have q2 : wq.cell? ⟨(w1.heap.size + 1), 2, none⟩ = some (.int .i64 y2) := hb9.cell 2
                have q3 : wq.cell? ⟨(w1.heap.size + 1), 3, none⟩ = some (.int .i64 y3) := hb9.cell 3
                have q4 : wq.cell? ⟨(w1.heap.size + 1), 4, none⟩ = some (.int .i64 y4) := hb9.cell 4
                simp [execOp, Act.eval, e4, q0, q1, q2, q3, q4, go_sem]
              · refine opW_want (s := 68) rfl rfl rfl (by kernel_rfl) rfl (op_val (d := 75) rfl (.bool true) (fun fr9 wq hf hd hb => ⟨?_, ?_⟩) _)
                rotate_left
                · exact rfl
                have e73 : fr9.tmps.getD 73 undef = .agg #[.int .i64 x0, .int .i64 x1, .int .i64 x2, .int .i64 x3, .int .i64 x4] := hd 73 (by kernel_rfl)
                have e74 : fr9.tmps.getD 74 undef = .agg #[.int .i64 y0, .int .i64 y1, .int .i64 y2, .int .i64 y3, .int .i64 y4] := hd 74 (by kernel_rfl)
                simp [execOp, Act.eval, e73, e74, hqs, go_sem]
            · intro fq wq hf hbq
              have e61 : fq 61 = .pointer (some ⟨w3.heap.size, 2, none⟩) := hf 61 (by decide)
              have e62 : fq 62 = .slice (some ⟨bb, off, none⟩) d3.length c3 := hf 62 (by decide)
              have e63 : fq 63 = .int .i64 j := hf 63 (by decide)
              have e64 : fq 64 = .pointer (some ⟨bb, off + j * 5, none⟩) := hf 64 (by decide)
              have e65 : fq 65 = .agg #[.int .i64 x0, .int .i64 x1, .int .i64 x2, .int .i64 x3, .int .i64 x4] := hf 65 (by decide)
              have e66 : fq 66 = .agg #[.int .i64 0, .int .i64 0, .int .i64 0, .int .i64 0, .int .i64 0] := hf 66 (by decide)
              have e67 : fq 67 = .bool false := hf 67 (by decide)
              have e68 : fq 68 = .bool false := hf 68 (by decide)
              have e69 : fq 69 = .pointer (some ⟨w3.heap.size, 2, none⟩) := hf 69 (by decide)
              have e70 : fq 70 = .slice (some ⟨bb, off, none⟩) d3.length c3 := hf 70 (by decide)
              have e71 : fq 71 = .int .i64 j := hf 71 (by decide)
              have e72 : fq 72 = .pointer (some ⟨bb, off + j * 5, none⟩) := hf 72 (by decide)
              have e73 : fq 73 = .agg #[.int .i64 x0, .int .i64 x1, .int .i64 x2, .int .i64 x3, .int .i64 x4] := hf 73 (by decide)
              have e74 : fq 74 = .agg #[.int .i64 y0, .int .i64 y1, .int .i64 y2, .int .i64 y3, .int .i64 y4] := hf 74 (by decide)
              have e75 : fq 75 = .bool true := hf 75 (by decide)
              simp only [List.drop_succ_cons, List.drop_zero, putL, Act.put, List.setIfInBounds_toArray, List.set_cons_succ, List.set_cons_zero, e61, e62, e63, e64, e65, e66, e67, e68, e69, e70, e71, e72, e73, e74, e75]
              clear hf e61 e62 e63 e64 e65 e66 e67 e68 e69 e70 e71 e72 e73 e74 e75
              have QG := Lib.hid (Below.step G8.out hbq (by have := G8.out.size; omega))
              clear hbq
              go_wp2
              go_roundw
              case rel => exact ⟨j + 1, by omega, by go_num, Lib.hid (.inr trivial), QG.out⟩
              case measure => simp [intOf]; omega
          · have hqs : ∀ w, (binOp .eql 27 (.agg #[.int .i64 x0, .int .i64 x1, .int .i64 x2, .int .i64 x3, .int .i64 x4]) (.agg #[.int .i64 y0, .int .i64 y1, .int .i64 y2, .int .i64 y3, .int .i64 y4])).run Try.prog w = .ok (.bool false) w := eqlF_no' hq
            have hjk := HJK.out hq
            clear hq HJK
            obtain ⟨b_0, b_1, b_2, b_f⟩ := B8.out.three
            go_upto_region 11 with fail
            refine region_anyW _ 15 98 [61, 62, 63, 64, 65, 66, 67, 68, 69, 70, 71, 72, 73, 74, 75] [(61, .val (.pointer (some ⟨w3.heap.size, 2, none⟩))), (62, .val (.slice (some ⟨bb, off, none⟩) d3.length c3)), (63, .val (.int .i64 j)), (64, .val (.pointer (some ⟨bb, off + j * 5, none⟩))), (65, .val (.agg #[.int .i64 x0, .int .i64 x1, .int .i64 x2, .int .i64 x3, .int .i64 x4])), (66, .val (.agg #[.int .i64 0, .int .i64 0, .int .i64 0, .int .i64 0, .int .i64 0])), (67, .val (.bool false)), (68, .val (.bool false)), (69, .val (.pointer (some ⟨w3.heap.size, 2, none⟩))), (70, .val (.slice (some ⟨bb, off, none⟩) d3.length c3)), (71, .val (.int .i64 j)), (72, .val (.pointer (some ⟨bb, off + j * 5, none⟩))), (73, .val (.agg #[.int .i64 x0, .int .i64 x1, .int .i64 x2, .int .i64 x3, .int .i64 x4])), (74, .val (.agg #[.int .i64 y0, .int .i64 y1, .int .i64 y2, .int .i64 y3, .int .i64 y4])), (75, .val (.bool false))] rfl (by kernel_rfl) ?_ ?_
            · refine ⟨?_, ?_, ?_, ?_, ?_, ?_, ?_, ?_, ?_, ?_, ?_, ?_, ?_, ?_, ?_, trivial⟩
              · refine opW_free rfl rfl (op_val (d := 61) rfl (.pointer (some ⟨w3.heap.size, 2, none⟩)) (fun fr9 wq hf hd hb => ⟨?_, ?_⟩) _)
                rotate_left
                · exact rfl
                have e5 : fr9.tmps.getD 5 undef = .pointer (some ⟨w3.heap.size, 0, none⟩) := hf 5 (by kernel_rfl)
                simp [execOp, Act.eval, e5, go_sem]
              · refine opW_free rfl rfl (op_val (d := 62) rfl (.slice (some ⟨bb, off, none⟩) d3.length c3) (fun fr9 wq hf hd hb => ⟨?_, ?_⟩) _)
                rotate_left
                · exact rfl
                have e61 : fr9.tmps.getD 61 undef = .pointer (some ⟨w3.heap.size, 2, none⟩) := hd 61 (by kernel_rfl)
                have hb9 := B8.out.keep hb
                have q9 : wq.cell? ⟨w3.heap.size, 2, none⟩ = some (.slice (some ⟨bb, off, none⟩) d3.length c3) := hb9.cell 2
                simp [execOp, Act.eval, e61, q9, go_sem]
              · refine opW_free rfl rfl (op_val (d := 63) rfl (.int .i64 j) (fun fr9 wq hf hd hb => ⟨?_, ?_⟩) _)
                rotate_left
                · exact rfl
                have e11 : fr9.tmps.getD 11 undef = .int .i64 j := hf 11 (by kernel_rfl)
                exact (run_mv _ _ _ (.tmp 11) _ e11).1 rfl
              · refine opW_free rfl rfl (op_val (d := 64) rfl (.pointer (some ⟨bb, off + j * 5, none⟩)) (fun fr9 wq hf hd hb => ⟨?_, ?_⟩) _)
                rotate_left
                · exact rfl
                have e62 : fr9.tmps.getD 62 undef = .slice (some ⟨bb, off, none⟩) d3.length c3 := hd 62 (by kernel_rfl)
                have e63 : fr9.tmps.getD 63 undef = .int .i64 j := hd 63 (by kernel_rfl)
                exact run_ixF _ _ _ (.tmp 62) (.tmp 63) bb off _ _ j hlt rfl e62 e63
              · refine opW_free rfl rfl (op_val (d := 65) rfl (.agg #[.int .i64 x0, .int .i64 x1, .int .i64 x2, .int .i64 x3, .int .i64 x4]) (fun fr9 wq hf hd hb => ⟨?_, ?_⟩) _)
                rotate_left
                · exact rfl
                have e64 : fr9.tmps.getD 64 undef = .pointer (some ⟨bb, off + j * 5, none⟩) := hd 64 (by kernel_rfl)
                have q0 := (World.cell?_of_block (hb.block _ hbl)).trans q0
                have q1 := (World.cell?_of_block (hb.block _ hbl)).trans q1
                have q2 := (World.cell?_of_block (hb.block _ hbl)).trans q2
                have q3 := (World.cell?_of_block (hb.block _ hbl)).trans q3
                have q4 := (World.cell?_of_block (hb.block _ hbl)).trans q4
                simp [execOp, Act.eval, e64, q0, q1, q2, q3, q4, go_sem]
              · refine opW_free rfl rfl (op_val (d := 66) rfl (.agg #[.int .i64 0, .int .i64 0, .int .i64 0, .int .i64 0, .int .i64 0]) (fun fr9 wq hf hd hb => ⟨?_, ?_⟩) _)
                rotate_left
                · exact rfl
                simp [execOp, go_sem]
              · refine opW_free rfl rfl (op_val (d := 67) rfl (.bool false) (fun fr9 wq hf hd hb => ⟨?_, ?_⟩) _)
                rotate_left
                · exact rfl
                have e65 : fr9.tmps.getD 65 undef = .agg #[.int .i64 x0, .int .i64 x1, .int .i64 x2, .int .i64 x3, .int .i64 x4] := hd 65 (by kernel_rfl)
                have e66 : fr9.tmps.getD 66 undef = .agg #[.int .i64 0, .int .i64 0, .int .i64 0, .int .i64 0, .int .i64 0] := hd 66 (by kernel_rfl)
                simp [execOp, Act.eval, e65, e66, hqz, go_sem]
              · refine opW_free rfl rfl (op_val (d := 68) rfl (.bool false) (fun fr9 wq hf hd hb => ⟨?_, ?_⟩) _)
                rotate_left
                · exact rfl
                have e67 : fr9.tmps.getD 67 undef = .bool false := hd 67 (by kernel_rfl)
                exact (run_mv _ _ _ (.tmp 67) _ e67).1 rfl
              · refine opW_want (s := 68) rfl rfl rfl (by kernel_rfl) rfl (op_val (d := 69) rfl (.pointer (some ⟨w3.heap.size, 2, none⟩)) (fun fr9 wq hf hd hb => ⟨?_, ?_⟩) _)
                rotate_left
                · exact rfl
                have e5 : fr9.tmps.getD 5 undef = .pointer (some ⟨w3.heap.size, 0, none⟩) := hf 5 (by kernel_rfl)
                simp [execOp, Act.eval, e5, go_sem]
              · refine opW_want (s := 68) rfl rfl rfl (by kernel_rfl) rfl (op_val (d := 70) rfl (.slice (some ⟨bb, off, none⟩) d3.length c3) (fun fr9 wq hf hd hb => ⟨?_, ?_⟩) _)
                rotate_left
                · exact rfl
                have e69 : fr9.tmps.getD 69 undef = .pointer (some ⟨w3.heap.size, 2, none⟩) := hd 69 (by kernel_rfl)
                have hb9 := B8.out.keep hb
                have q9 : wq.cell? ⟨w3.heap.size, 2, none⟩ = some (.slice (some ⟨bb, off, none⟩) d3.length c3) := hb9.cell 2
                simp [execOp, Act.eval, e69, q9, go_sem]
              · refine opW_want (s := 68) rfl rfl rfl (by kernel_rfl) rfl (op_val (d := 71) rfl (.int .i64 j) (fun fr9 wq hf hd hb => ⟨?_, ?_⟩) _)
                rotate_left
                · exact rfl
                have e11 : fr9.tmps.getD 11 undef = .int .i64 j := hf 11 (by kernel_rfl)
                exact (run_mv _ _ _ (.tmp 11) _ e11).1 rfl
              · refine opW_want (s := 68) rfl rfl rfl (by kernel_rfl) rfl (op_val (d := 72) rfl (.pointer (some ⟨bb, off + j * 5, none⟩)) (fun fr9 wq hf hd hb => ⟨?_, ?_⟩) _)
                rotate_left
                · exact rfl
                have e70 : fr9.tmps.getD 70 undef = .slice (some ⟨bb, off, none⟩) d3.length c3 := hd 70 (by kernel_rfl)
                have e71 : fr9.tmps.getD 71 undef = .int .i64 j := hd 71 (by kernel_rfl)
                exact run_ixF _ _ _ (.tmp 70) (.tmp 71) bb off _ _ j hlt rfl e70 e71
              · refine opW_want (s := 68) rfl rfl rfl (by kernel_rfl) rfl (op_val (d := 73) rfl (.agg #[.int .i64 x0, .int .i64 x1, .int .i64 x2, .int .i64 x3, .int .i64 x4]) (fun fr9 wq hf hd hb => ⟨?_, ?_⟩) _)
                rotate_left
                · exact rfl
                have e72 : fr9.tmps.getD 72 undef = .pointer (some ⟨bb, off + j * 5, none⟩) := hd 72 (by kernel_rfl)
                have q0 := (World.cell?_of_block (hb.block _ hbl)).trans q0
                have q1 := (World.cell?_of_block (hb.block _ hbl)).trans q1
                have q2 := (World.cell?_of_block (hb.block _ hbl)).trans q2
                have q3 := (World.cell?_of_block (hb.block _ hbl)).trans q3
                have q4 := (World.cell?_of_block (hb.block _ hbl)).trans q4
                simp [execOp, Act.eval, e72, q0, q1, q2, q3, q4, go_sem]
              · refine opW_want (s := 68) rfl rfl rfl (by kernel_rfl) rfl (op_val (d := 74) rfl (.agg #[.int .i64 y0, .int .i64 y1, .int .i64 y2, .int .i64 y3, .int .i64 y4]) (fun fr9 wq hf hd hb => ⟨?_, ?_⟩) _)
                rotate_left
                · exact rfl
                have e4 : fr9.tmps.getD 4 undef = .pointer (some ⟨(w1.heap.size + 1), 0, none⟩) := hf 4 (by kernel_rfl)
                have hb9 := Fb8.out.keep hb
                have q0 : wq.cell? ⟨(w1.heap.size + 1), 0, none⟩ = some (.int .i64 y0) := hb9.cell 0
                have q1 : wq.cell? ⟨(w1.heap.size + 1), 1, none⟩ = some (.int .i64 y1) := hb9.cell 1
                have q2 : wq.cell? ⟨(w1.heap.size + 1), 2, none⟩ = some (.int .i64 y2) := hb9.cell 2
                have q3 : wq.cell? ⟨(w1.heap.size + 1), 3, none⟩ = some (.int .i64 y3) := hb9.cell 3
                have q4 : wq.cell? ⟨(w1.heap.size + 1), 4, none⟩ = some (.int .i64 y4) := hb9.cell 4
                simp [execOp, Act.eval, e4, q0, q1, q2, q3, q4, go_sem]
              · refine opW_want (s := 68) rfl rfl rfl (by kernel_rfl) rfl (op_val (d := 75) rfl (.bool false) (fun fr9 wq hf hd hb => ⟨?_, ?_⟩) _)
                rotate_left
                · exact rfl
                have e73 : fr9.tmps.getD 73 undef = .agg #[.int .i64 x0, .int .i64 x1, .int .i64 x2, .int .i64 x3, .int .i64 x4] := hd 73 (by kernel_rfl)
                have e74 : fr9.tmps.getD 74 undef = .agg #[.int .i64 y0, .int .i64 y1, .int .i64 y2, .int .i64 y3, .int .i64 y4] := hd 74 (by kernel_rfl)
                simp [execOp, Act.eval, e73, e74, hqs, go_sem]
            · intro fq wq hf hbq
              have e61 : fq 61 = .pointer (some ⟨w3.heap.size, 2, none⟩) := hf 61 (by decide)
              have e62 : fq 62 = .slice (some ⟨bb, off, none⟩) d3.length c3 := hf 62 (by decide)
              have e63 : fq 63 = .int .i64 j := hf 63 (by decide)
              have e64 : fq 64 = .pointer (some ⟨bb, off + j * 5, none⟩) := hf 64 (by decide)
              have e65 : fq 65 = .agg #[.int .i64 x0, .int .i64 x1, .int .i64 x2, .int .i64 x3, .int .i64 x4] := hf 65 (by decide)
              have e66 : fq 66 = .agg #[.int .i64 0, .int .i64 0, .int .i64 0, .int .i64 0, .int .i64 0] := hf 66 (by decide)
              have e67 : fq 67 = .bool false := hf 67 (by decide)
              have e68 : fq 68 = .bool false := hf 68 (by decide)
              have e69 : fq 69 = .pointer (some ⟨w3.heap.size, 2, none⟩) := hf 69 (by decide)
              have e70 : fq 70 = .slice (some ⟨bb, off, none⟩) d3.length c3 := hf 70 (by decide)
              have e71 : fq 71 = .int .i64 j := hf 71 (by decide)
              have e72 : fq 72 = .pointer (some ⟨bb, off + j * 5, none⟩) := hf 72 (by decide)
              have e73 : fq 73 = .agg #[.int .i64 x0, .int .i64 x1, .int .i64 x2, .int .i64 x3, .int .i64 x4] := hf 73 (by decide)
              have e74 : fq 74 = .agg #[.int .i64 y0, .int .i64 y1, .int .i64 y2, .int .i64 y3, .int .i64 y4] := hf 74 (by decide)
              have e75 : fq 75 = .bool false := hf 75 (by decide)
              simp only [List.drop_succ_cons, List.drop_zero, putL, Act.put, List.setIfInBounds_toArray, List.set_cons_succ, List.set_cons_zero, e61, e62, e63, e64, e65, e66, e67, e68, e69, e70, e71, e72, e73, e74, e75]
              clear hf e61 e62 e63 e64 e65 e66 e67 e68 e69 e70 e71 e72 e73 e74 e75
              clear b_0 b_1 b_2 b_f
              obtain ⟨w9, rfl⟩ : ∃ W, W = wq := ⟨_, rfl⟩
              have q0 := (hbq.cell (p := ⟨bb, off + j * 5, none⟩) hbl).trans q0
              have q1 := (hbq.cell (p := ⟨bb, off + j * 5 + 1, none⟩) hbl).trans q1
              have q2 := (hbq.cell (p := ⟨bb, off + j * 5 + 2, none⟩) hbl).trans q2
              have q3 := (hbq.cell (p := ⟨bb, off + j * 5 + 3, none⟩) hbl).trans q3
              have q4 := (hbq.cell (p := ⟨bb, off + j * 5 + 4, none⟩) hbl).trans q4
              have hbl : bb < w9.heap.size := Nat.lt_of_lt_of_le hbl hbq.size
              have zz9 := (hbq).size
              have D9 := Lib.hid (Below.step D8.out hbq (by omega))
              have I9 := Lib.hid (I8.out.below hbq)
              have T9 := Lib.hid (T8.out.keep hbq)
              have Fb9 := Lib.hid (Fb8.out.keep hbq)
              have X9 := Lib.hid (X8.out.below hbq)
              have B9 := Lib.hid (B8.out.keep hbq)
              have U9 := Lib.hid (U8.out.keep hbq)
              have G9 := Lib.hid (Below.step G8.out hbq (by omega))
              clear D8 I8 T8 Fb8 X8 B8 U8 G8
              clear hbq
              obtain ⟨b_0, b_1, b_2, b_f⟩ := B9.out.three
              go_upto_region 12 with fail
              clear b_0 b_1 b_2 b_f
              refine region_anyP _ 13 98 [78, 79, 80, 81, 82, 83, 84, 77, 85, 86, 87, 12, 13] [] [(78, .val (.agg #[.int .i64 d1, .int .i64 d2, .slice (some ⟨bb, off, none⟩) d3.length c3])), (79, .val (.pointer (some ⟨w3.heap.size, 2, none⟩))), (80, .val (.slice (some ⟨bb, off, none⟩) d3.length c3)), (81, .val (.int .i64 j)), (82, .val (.pointer (some ⟨bb, off + j * 5, none⟩))), (83, .val (.agg #[.int .i64 x0, .int .i64 x1, .int .i64 x2, .int .i64 x3, .int .i64 x4])), (84, .row w9.heap.size 27 5 (d3.length) (fCells d3) (fun s => .tuple #[.agg #[.int .i64 d1, .int .i64 d2, s], .agg #[.int .i64 d1, .int .i64 (d2 + (j : Int)), .int .i64 x2, .int .i64 x3, .int .i64 x4], .bool true])), (77, .row w9.heap.size 27 5 (d3.length) (fCells d3) (fun s => .tuple #[.agg #[.int .i64 d1, .int .i64 d2, s], .agg #[.int .i64 d1, .int .i64 (d2 + (j : Int)), .int .i64 x2, .int .i64 x3, .int .i64 x4], .bool true])), (85, .row w9.heap.size 27 5 (d3.length) (fCells d3) (fun s => .agg #[.int .i64 d1, .int .i64 d2, s])), (86, .val (.agg #[.int .i64 d1, .int .i64 (d2 + (j : Int)), .int .i64 x2, .int .i64 x3, .int .i64 x4])), (87, .val (.bool true)), (12, .bx w9.heap.size 25 [.int .i64 0, .int .i64 0, .slice none 0 0]), (13, .bx w9.heap.size 27 [.int .i64 0, .int .i64 0, .int .i64 0, .int .i64 0, .int .i64 0])] [9, 10] rfl (by kernel_rfl) (fun s hs => by cases hs) (spAt_free (by kernel_rfl)) (fun s hs => by cases hs) rfl (fun _ _ _ _ _ h => h) ?_ ?_ ?_
              · intro i9 o9 hi9 ho9 fr9 wq hd
                simp only [List.mem_cons, List.not_mem_nil, or_false] at hi9
                rcases hi9 with rfl | rfl
                all_goals
                  injection ho9 with ho9
                  subst ho9
                  obtain ⟨a77, c77, e77, o77⟩ : ∃ (a2 : Option Addr) (c2 : Nat), fr9.tmps.getD 77 undef = .tuple #[.agg #[.int .i64 d1, .int .i64 d2, .slice a2 (d3.length) c2], .agg #[.int .i64 d1, .int .i64 (d2 + (j : Int)), .int .i64 x2, .int .i64 x3, .int .i64 x4], .bool true] ∧ wq.ownsRow w9.heap.size 27 5 (.slice a2 (d3.length) c2) (d3.length) (fCells d3) := hd 77 (by kernel_rfl)
                · exact ⟨86, _, rfl, .inl ⟨rfl, fun w9 => run_ext _ _ w9 (.tmp 77) 1 _ _ rfl e77 rfl⟩, rfl⟩
                · exact ⟨87, _, rfl, .inl ⟨rfl, fun w9 => run_ext _ _ w9 (.tmp 77) 2 _ _ rfl e77 rfl⟩, rfl⟩
              · refine ⟨?_, ?_, ?_, ?_, ?_, ?_, ?_, ?_, ?_, ?_, ?_, ?_, ?_, trivial⟩
                · refine opS_any (d := 78) rfl rfl (by kernel_rfl) (op_val (d := 78) rfl (.agg #[.int .i64 d1, .int .i64 d2, .slice (some ⟨bb, off, none⟩) d3.length c3]) (fun fr9 wq hf hd hb => ⟨?_, ?_⟩) _)
                  rotate_left
                  · exact rfl
                  have e5 : fr9.tmps.getD 5 undef = .pointer (some ⟨w3.heap.size, 0, none⟩) := hf 5 (by kernel_rfl)
                  have hb9 := B9.out.keep hb
                  have q0 : wq.cell? ⟨w3.heap.size, 0, none⟩ = some (.int .i64 d1) := hb9.cell 0
                  have q1 : wq.cell? ⟨w3.heap.size, 1, none⟩ = some (.int .i64 d2) := hb9.cell 1
                  have q2 : wq.cell? ⟨w3.heap.size, 2, none⟩ = some (.slice (some ⟨bb, off, none⟩) d3.length c3) := hb9.cell 2
                  simp [execOp, Act.eval, e5, q0, q1, q2, go_sem]
                · refine opS_any (d := 79) rfl rfl (by kernel_rfl) (op_val (d := 79) rfl (.pointer (some ⟨w3.heap.size, 2, none⟩)) (fun fr9 wq hf hd hb => ⟨?_, ?_⟩) _)
                  rotate_left
                  · exact rfl
                  have e5 : fr9.tmps.getD 5 undef = .pointer (some ⟨w3.heap.size, 0, none⟩) := hf 5 (by kernel_rfl)
                  simp [execOp, Act.eval, e5, go_sem]
                · refine opS_any (d := 80) rfl rfl (by kernel_rfl) (op_val (d := 80) rfl (.slice (some ⟨bb, off, none⟩) d3.length c3) (fun fr9 wq hf hd hb => ⟨?_, ?_⟩) _)
                  rotate_left
                  · exact rfl
                  have e79 : fr9.tmps.getD 79 undef = .pointer (some ⟨w3.heap.size, 2, none⟩) := hd 79 (by kernel_rfl)
                  have hb9 := B9.out.keep hb
                  have q9 : wq.cell? ⟨w3.heap.size, 2, none⟩ = some (.slice (some ⟨bb, off, none⟩) d3.length c3) := hb9.cell 2
                  simp [execOp, Act.eval, e79, q9, go_sem]
                · refine opS_any (d := 81) rfl rfl (by kernel_rfl) (op_val (d := 81) rfl (.int .i64 j) (fun fr9 wq hf hd hb => ⟨?_, ?_⟩) _)
                  rotate_left
                  · exact rfl
                  have e11 : fr9.tmps.getD 11 undef = .int .i64 j := hf 11 (by kernel_rfl)
                  exact (run_mv _ _ _ (.tmp 11) _ e11).1 rfl
                · refine opS_any (d := 82) rfl rfl (by kernel_rfl) (op_val (d := 82) rfl (.pointer (some ⟨bb, off + j * 5, none⟩)) (fun fr9 wq hf hd hb => ⟨?_, ?_⟩) _)
                  rotate_left
                  · exact rfl
                  have e80 : fr9.tmps.getD 80 undef = .slice (some ⟨bb, off, none⟩) d3.length c3 := hd 80 (by kernel_rfl)
                  have e81 : fr9.tmps.getD 81 undef = .int .i64 j := hd 81 (by kernel_rfl)
                  exact run_ixF _ _ _ (.tmp 80) (.tmp 81) bb off _ _ j hlt rfl e80 e81
                · refine opS_any (d := 83) rfl rfl (by kernel_rfl) (op_val (d := 83) rfl (.agg #[.int .i64 x0, .int .i64 x1, .int .i64 x2, .int .i64 x3, .int .i64 x4]) (fun fr9 wq hf hd hb => ⟨?_, ?_⟩) _)
                  rotate_left
                  · exact rfl
                  have e82 : fr9.tmps.getD 82 undef = .pointer (some ⟨bb, off + j * 5, none⟩) := hd 82 (by kernel_rfl)
                  have q0 := (World.cell?_of_block (hb.block _ hbl)).trans q0
                  have q1 := (World.cell?_of_block (hb.block _ hbl)).trans q1
                  have q2 := (World.cell?_of_block (hb.block _ hbl)).trans q2
                  have q3 := (World.cell?_of_block (hb.block _ hbl)).trans q3
                  have q4 := (World.cell?_of_block (hb.block _ hbl)).trans q4
                  simp [execOp, Act.eval, e82, q0, q1, q2, q3, q4, go_sem]
                · refine opS_any (d := 84) rfl rfl (by kernel_rfl) ?_
                  intro fr9 wq hf hd hb
                  have e78 : fr9.tmps.getD 78 undef = .agg #[.int .i64 d1, .int .i64 d2, .slice (some ⟨bb, off, none⟩) d3.length c3] := hd 78 (by kernel_rfl)
                  have e83 : fr9.tmps.getD 83 undef = .agg #[.int .i64 x0, .int .i64 x1, .int .i64 x2, .int .i64 x3, .int .i64 x4] := hd 83 (by kernel_rfl)
                  have hv9 : (#[Operand.tmp 78, Operand.tmp 83] : Array Operand).map fr9.eval = #[.agg #[.int .i64 d1, .int .i64 d2, .slice (some ⟨bb, off, none⟩) d3.length c3], .agg #[.int .i64 x0, .int .i64 x1, .int .i64 x2, .int .i64 x3, .int .i64 x4]] := by simp only [List.map_toArray, List.map_cons, List.map_nil, Act.eval, e78, e83]
                  refine ⟨84, rfl, op_call rfl (run_callL _ _ _ 12 _ _ _ rfl rfl hv9 (enters_of Try.func12 (by kernel_rfl) rfl)) ?_⟩
                  refine (c_Snd_r HSA.out (some ⟨bb, off, none⟩) d3.length c3 wq rfl HDL.out (X9.out.below hb) Xz.out).mono ?_
                  rintro e w5 ⟨a5, c5, rfl, o5, g5⟩
                  exact ⟨_, rfl, _, rfl, ⟨a5, c5, rfl, row_wider o5 hb.size⟩, grown_below g5⟩
                · refine opS_any (d := 77) rfl rfl (by kernel_rfl) ?_
                  intro fr9 wq hf hd hb
                  obtain ⟨a84, c84, e84, o84⟩ : ∃ (a2 : Option Addr) (c2 : Nat), fr9.tmps.getD 84 undef = .tuple #[.agg #[.int .i64 d1, .int .i64 d2, .slice a2 (d3.length) c2], .agg #[.int .i64 d1, .int .i64 (d2 + (j : Int)), .int .i64 x2, .int .i64 x3, .int .i64 x4], .bool true] ∧ wq.ownsRow w9.heap.size 27 5 (.slice a2 (d3.length) c2) (d3.length) (fCells d3) := hd 84 (by kernel_rfl)
                  exact ⟨77, rfl, wp_val2 rfl ((run_mv _ _ _ (.tmp 84) _ e84).1 rfl) ⟨_, rfl, ⟨a84, c84, rfl, o84⟩, Below.refl _ _⟩⟩
                · refine opS_any (d := 85) rfl rfl (by kernel_rfl) ?_
                  intro fr9 wq hf hd hb
                  obtain ⟨a77, c77, e77, o77⟩ : ∃ (a2 : Option Addr) (c2 : Nat), fr9.tmps.getD 77 undef = .tuple #[.agg #[.int .i64 d1, .int .i64 d2, .slice a2 (d3.length) c2], .agg #[.int .i64 d1, .int .i64 (d2 + (j : Int)), .int .i64 x2, .int .i64 x3, .int .i64 x4], .bool true] ∧ wq.ownsRow w9.heap.size 27 5 (.slice a2 (d3.length) c2) (d3.length) (fCells d3) := hd 77 (by kernel_rfl)
                  exact ⟨85, rfl, wp_val2 rfl (run_ext _ _ _ (.tmp 77) 0 _ _ rfl e77 rfl) ⟨_, rfl, ⟨a77, c77, rfl, o77⟩, Below.refl _ _⟩⟩
                · refine opS_any (d := 86) rfl rfl (by kernel_rfl) (op_val (d := 86) rfl (.agg #[.int .i64 d1, .int .i64 (d2 + (j : Int)), .int .i64 x2, .int .i64 x3, .int .i64 x4]) (fun fr9 wq hf hd hb => ⟨?_, ?_⟩) _)
                  rotate_left
                  · exact rfl
                  obtain ⟨a77, c77, e77, o77⟩ : ∃ (a2 : Option Addr) (c2 : Nat), fr9.tmps.getD 77 undef = .tuple #[.agg #[.int .i64 d1, .int .i64 d2, .slice a2 (d3.length) c2], .agg #[.int .i64 d1, .int .i64 (d2 + (j : Int)), .int .i64 x2, .int .i64 x3, .int .i64 x4], .bool true] ∧ wq.ownsRow w9.heap.size 27 5 (.slice a2 (d3.length) c2) (d3.length) (fCells d3) := hd 77 (by kernel_rfl)
                  exact run_ext _ _ _ (.tmp 77) 1 _ _ rfl e77 rfl
                · refine opS_any (d := 87) rfl rfl (by kernel_rfl) (op_val (d := 87) rfl (.bool true) (fun fr9 wq hf hd hb => ⟨?_, ?_⟩) _)
                  rotate_left
                  · exact rfl
                  obtain ⟨a77, c77, e77, o77⟩ : ∃ (a2 : Option Addr) (c2 : Nat), fr9.tmps.getD 77 undef = .tuple #[.agg #[.int .i64 d1, .int .i64 d2, .slice a2 (d3.length) c2], .agg #[.int .i64 d1, .int .i64 (d2 + (j : Int)), .int .i64 x2, .int .i64 x3, .int .i64 x4], .bool true] ∧ wq.ownsRow w9.heap.size 27 5 (.slice a2 (d3.length) c2) (d3.length) (fCells d3) := hd 77 (by kernel_rfl)
                  exact run_ext _ _ _ (.tmp 77) 2 _ _ rfl e77 rfl
                · refine opS_any (d := 12) rfl rfl (by kernel_rfl) ?_
                  exact op_alloc (d := 12) rfl 25 [.int .i64 0, .int .i64 0, .slice none 0 0] _ (Nat.le_refl _) rfl (fun ρ wq => run_alOi _ ρ wq rfl) _
                · refine opS_any (d := 13) rfl rfl (by kernel_rfl) ?_
                  exact op_alloc (d := 13) rfl 27 [.int .i64 0, .int .i64 0, .int .i64 0, .int .i64 0, .int .i64 0] _ (Nat.le_refl _) rfl (fun ρ wq => run_alFi _ ρ wq rfl) _
              · intro fq wq hf hbq
                have e78 : fq 78 = .agg #[.int .i64 d1, .int .i64 d2, .slice (some ⟨bb, off, none⟩) d3.length c3] := hf 78 (by decide)
                have e79 : fq 79 = .pointer (some ⟨w3.heap.size, 2, none⟩) := hf 79 (by decide)
                have e80 : fq 80 = .slice (some ⟨bb, off, none⟩) d3.length c3 := hf 80 (by decide)
                have e81 : fq 81 = .int .i64 j := hf 81 (by decide)
                have e82 : fq 82 = .pointer (some ⟨bb, off + j * 5, none⟩) := hf 82 (by decide)
                have e83 : fq 83 = .agg #[.int .i64 x0, .int .i64 x1, .int .i64 x2, .int .i64 x3, .int .i64 x4] := hf 83 (by decide)
                obtain ⟨a84, c84, e84, o84⟩ : ∃ (a2 : Option Addr) (c2 : Nat), fq 84 = .tuple #[.agg #[.int .i64 d1, .int .i64 d2, .slice a2 (d3.length) c2], .agg #[.int .i64 d1, .int .i64 (d2 + (j : Int)), .int .i64 x2, .int .i64 x3, .int .i64 x4], .bool true] ∧ wq.ownsRow w9.heap.size 27 5 (.slice a2 (d3.length) c2) (d3.length) (fCells d3) := hf 84 (by decide)
                obtain ⟨a77, c77, e77, o77⟩ : ∃ (a2 : Option Addr) (c2 : Nat), fq 77 = .tuple #[.agg #[.int .i64 d1, .int .i64 d2, .slice a2 (d3.length) c2], .agg #[.int .i64 d1, .int .i64 (d2 + (j : Int)), .int .i64 x2, .int .i64 x3, .int .i64 x4], .bool true] ∧ wq.ownsRow w9.heap.size 27 5 (.slice a2 (d3.length) c2) (d3.length) (fCells d3) := hf 77 (by decide)
                obtain ⟨a85, c85, e85, o85⟩ : ∃ (a2 : Option Addr) (c2 : Nat), fq 85 = .agg #[.int .i64 d1, .int .i64 d2, .slice a2 (d3.length) c2] ∧ wq.ownsRow w9.heap.size 27 5 (.slice a2 (d3.length) c2) (d3.length) (fCells d3) := hf 85 (by decide)
                have e86 : fq 86 = .agg #[.int .i64 d1, .int .i64 (d2 + (j : Int)), .int .i64 x2, .int .i64 x3, .int .i64 x4] := hf 86 (by decide)
                have e87 : fq 87 = .bool true := hf 87 (by decide)
                obtain ⟨g12, e12, l12, b12⟩ : ∃ g, fq 12 = .pointer (some ⟨g, 0, none⟩) ∧ w9.heap.size ≤ g ∧ Box wq g 25 [.int .i64 0, .int .i64 0, .slice none 0 0] := hf 12 (by decide)
                obtain ⟨g13, e13, l13, b13⟩ : ∃ g, fq 13 = .pointer (some ⟨g, 0, none⟩) ∧ w9.heap.size ≤ g ∧ Box wq g 27 [.int .i64 0, .int .i64 0, .int .i64 0, .int .i64 0, .int .i64 0] := hf 13 (by decide)
                simp only [List.drop_succ_cons, List.drop_zero, putL, Act.put, List.setIfInBounds_toArray, List.set_cons_succ, List.set_cons_zero, e78, e79, e80, e81, e82, e83, e84, e77, e85, e86, e87, e12, e13]
                clear hf e78 e79 e80 e81 e82 e83 e84 e77 e85 e86 e87 e12 e13
                have hne9 : g13 ≠ g12 := fun e => by subst e; exact absurd (box_type b12 b13) (by decide)
                have hne8 : ¬ g12 = g13 := fun e => hne9 e.symm
                obtain ⟨p0, p1, p2, pf⟩ := b12.three
                obtain ⟨r0, r1, r2, r3, r4, rf⟩ := b13.five
                go_upto_region 13 with fail
                obtain ⟨w10, hw10⟩ : ∃ W, W = (((((((wq.setCell ⟨g12, 0, none⟩ (.int .i64 d1)).setCell ⟨g12, 1, none⟩ (.int .i64 d2)).setCell ⟨g12, 2, none⟩ (.slice a85 d3.length c85)).setCell ⟨g13, 0, none⟩ (.int .i64 d1)).setCell ⟨g13, 1, none⟩ (.int .i64 (d2 + (j : Int)))).setCell ⟨g13, 2, none⟩ (.int .i64 x2)).setCell ⟨g13, 3, none⟩ (.int .i64 x3)).setCell ⟨g13, 4, none⟩ (.int .i64 x4) := ⟨_, rfl⟩
                have hb10 : Below w9.heap.size w9 w10 := by rw [hw10]; exact ((((((((hbq.setCell l12 _).setCell l12 _).setCell l12 _).setCell l13 _).setCell l13 _).setCell l13 _).setCell l13 _).setCell l13 _)
                have zz10 := (hb10).size
                have D10 := Lib.hid (Below.step D9.out hb10 (by omega))
                have I10 := Lib.hid (I9.out.below hb10)
                have T10 := Lib.hid (T9.out.keep hb10)
                have Fb10 := Lib.hid (Fb9.out.keep hb10)
                have X10 := Lib.hid (X9.out.below hb10)
                have B10 := Lib.hid (B9.out.keep hb10)
                have U10 := Lib.hid (U9.out.keep hb10)
                have G10 := Lib.hid (Below.step G9.out hb10 (by omega))
                clear D9 I9 T9 Fb9 X9 B9 U9 G9
                have Q10 : Hid (Box w10 g13 27 [.int .i64 d1, .int .i64 (d2 + (j : Int)), .int .i64 x2, .int .i64 x3, .int .i64 x4]) := Lib.hid (by rw [hw10]; exact ((((((((b13.other hne9 _).other hne9 _).other hne9 _).set 0 _).set 1 _).set 2 _).set 3 _).set 4 _))
                rw [← hw10]
                clear hw10 hb10 hbq b12 b13 l12 l13 p0 p1 p2 pf r0 r1 r2 r3 r4 rf o77 o84 o85 hne8 hne9
                have hne7 : ¬ d2 + (j : Int) = d2 + (k : Int) := by omega
                obtain ⟨q_0, q_1, q_2, q_3, q_4, q_f⟩ := Q10.out.five
                obtain ⟨u_0, u_1, u_2, u_3, u_4, u_f⟩ := U10.out.five
                have QG := G10.out
                go_wp2
                go_roundw
                case rel => exact ⟨j + 1, by omega, by go_num, Lib.hid (.inr trivial), QG⟩
                case measure => simp [intOf]; omega
    · have hjd : j = d3.length := by omega
      subst hjd
      cases ok
      · skip
        obtain ⟨b_0, b_1, b_2, b_f⟩ := B8.out.three
        go_wp2_with fail
        refine (c_alive _).mono ?_
        rintro e w9 ⟨rfl, b9⟩
        clear b_0 b_1 b_2 b_f
        have zz9 := (b9).size
        have D9 := Lib.hid (Below.step D8.out b9 (by omega))
        have I9 := Lib.hid (I8.out.below b9)
        have T9 := Lib.hid (T8.out.keep b9)
        have Fb9 := Lib.hid (Fb8.out.keep b9)
        have X9 := Lib.hid (X8.out.below b9)
        have B9 := Lib.hid (B8.out.keep b9)
        have U9 := Lib.hid (U8.out.keep b9)
        have G9 := Lib.hid (Below.step G8.out b9 (by omega))
        clear D8 I8 T8 Fb8 X8 B8 U8 G8
        clear b9
        go_wp2
        go_ret
        exact ⟨rfl, D9.out⟩
      · skip
        obtain ⟨b_0, b_1, b_2, b_f⟩ := B8.out.three
        go_wp2_with fail
        refine (c_alive _).mono ?_
        rintro e w9 ⟨rfl, b9⟩
        clear b_0 b_1 b_2 b_f
        have zz9 := (b9).size
        have D9 := Lib.hid (Below.step D8.out b9 (by omega))
        have I9 := Lib.hid (I8.out.below b9)
        have T9 := Lib.hid (T8.out.keep b9)
        have Fb9 := Lib.hid (Fb8.out.keep b9)
        have X9 := Lib.hid (X8.out.below b9)
        have B9 := Lib.hid (B8.out.keep b9)
        have U9 := Lib.hid (U8.out.keep b9)
        have G9 := Lib.hid (Below.step G8.out b9 (by omega))
        clear D8 I8 T8 Fb8 X8 B8 U8 G8
        clear b9
        go_wp2
        go_ret
        exact ⟨rfl, D9.out⟩
end Go.Proofs.Ytalalapjanckdaa
