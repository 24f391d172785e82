/- ForwardPacket of the reference. No condition but lists of at most 2^20. -/
import Derived.Test.YtdkdfehlmphikaaFwp
namespace Go.Proofs.Ytdkdfehlmphikaa
open Go.RowKit
set_option maxRecDepth 100000 in
set_option maxHeartbeats 8000000 in
theorem s_ForwardPacket (a : Option Addr) (n cap : Nat) (hs : List H3) (N R : Int) (b : Option Addr) (m cb : Nat) (es : List E7) (f : F5) (now : Int) (w : World) (hxs : hs.length = n) (hn : n ≤ 1048576) (hP : Hosts w a hs) (hms : es.length = m) (hm : m ≤ 1048576) (hE : Ents w b es) (hnn : b = none → m = 0 ∧ cb = 0) :
    Calls Try.prog 23 #[.slice a n cap, .agg #[.int .i64 N, .int .i64 R, .slice b m cb], fvv f, .int .i64 now] w (RetFw w (fwdT hs (N, R, es) f now)) := by
  obtain ⟨y0, y1, y2, y3, y4⟩ := f
  unfold fvv
  have HP := Lib.hid hP
  have HE := Lib.hid hE
  have HX := Lib.hid hxs
  have HM := Lib.hid hms
  have HNN := Lib.hid hnn
  clear hP hE hxs hms hnn
  have HQ : Hid (fwdT hs (N, R, es) (y0, y1, y2, y3, y4) now = if (pv hs && tv N R es && fv (y0, y1, y2, y3, y4) && fitB es now) = true then (if chooseT hs (expT (N, R, es) now) (y0, y1, y2, y3, y4) < 0 then (dropT (expT (N, R, es) now) (y0, y1, y2, y3, y4), -1) else ((touchT (expT (N, R, es) now) (y0, y1, y2, y3, y4) (chooseT hs (expT (N, R, es) now) (y0, y1, y2, y3, y4)) now).1, chooseT hs (expT (N, R, es) now) (y0, y1, y2, y3, y4))) else ((0, 0, []), -1)) := Lib.hid rfl
  go_enter Try.func23, Try.ntmps23
  have D0 := Lib.hid (Below.refl w.heap.size w)
  obtain ⟨w1, hw1, b1, sz1, x1_0, x1_1, x1_2⟩ := head3 w 30 37 30 [.int .i64 N, .int .i64 R, .slice b m cb] [.int .i64 y0, .int .i64 y1, .int .i64 y2, .int .i64 y3, .int .i64 y4] [.int .i64 0, .int .i64 0, .slice none 0 0]
  have HW1 := Lib.hid hw1
  have zz1 := (b1).size
  have D1 := Lib.hid (Below.step D0.out b1 (by omega))
  clear D0
  have T1 := Lib.hid (x1_0)
  have Fb1 := Lib.hid (x1_1)
  have Z1 := Lib.hid (x1_2)
  clear hw1 b1 x1_0 x1_1 x1_2
  have hlo9 : w.heap.size ≤ w.heap.size := Nat.le_refl _
  have hlo8 : w.heap.size ≤ w.heap.size + 2 := by omega
  have hf9 : w.heap.size + 1 ≠ w.heap.size := by omega
  have hz9 : w.heap.size + 2 ≠ w.heap.size := by omega
  have hn1 : ¬ w.heap.size = w.heap.size + 1 := by omega
  have hn2 : ¬ w.heap.size = w.heap.size + 2 := by omega
  have hn3 : ¬ w.heap.size + 1 = w.heap.size + 2 := by omega
  have HDu : Hid (True) := Lib.hid trivial
  obtain ⟨t_0, t_1, t_2, t_f⟩ := T1.out.three
  go_wp2_with fail
  rw [← HW1.out]
  refine (s_own N R b m cb es _ HM.out hm (HE.out.below D1.out) HNN.out).mono ?_
  rintro e w2 ⟨a2, c2, rfl, o2, g2, _⟩
  clear t_0 t_1 t_2 t_f
  rw [HM.out] at o2 ⊢
  have b2 := grown_below g2
  have zz2 := (b2).size
  have D2 := Lib.hid (Below.step D1.out b2 (by omega))
  have T2 := Lib.hid (T1.out.keep b2)
  have Fb2 := Lib.hid (Fb1.out.keep b2)
  have Z2 := Lib.hid (Z1.out.keep b2)
  clear D1 T1 Fb1 Z1
  have O2 := Lib.hid (o2)
  have hOc := (row_cap o2).1
  have HOz := Lib.hid (own_none o2)
  clear b2 g2 o2
  obtain ⟨t_0, t_1, t_2, t_f⟩ := T2.out.three
  go_upto_region 2 with fail
  clear t_0 t_1 t_2 t_f
  obtain ⟨w3, hw3⟩ : ∃ W, W = ((w2.setCell ⟨w.heap.size, 0, none⟩ (.int .i64 N)).setCell ⟨w.heap.size, 1, none⟩ (.int .i64 R)).setCell ⟨w.heap.size, 2, none⟩ (.slice a2 m c2) := ⟨_, rfl⟩
  have D3 : Hid (Below w.heap.size w w3) := Lib.hid (by rw [hw3]; exact ((D2.out.setCell hlo9 _).setCell hlo9 _).setCell hlo9 _)
  have T3 : Hid (Box w3 w.heap.size 30 [.int .i64 N, .int .i64 R, .slice a2 m c2]) := Lib.hid (by rw [hw3]; exact ((T2.out.set 0 _).set 1 _).set 2 _)
  have Fb3 : Hid (Box w3 (w.heap.size + 1) 37 [.int .i64 y0, .int .i64 y1, .int .i64 y2, .int .i64 y3, .int .i64 y4]) := Lib.hid (by rw [hw3]; exact ((Fb2.out.other hf9 _).other hf9 _).other hf9 _)
  have Z3 : Hid (Box w3 (w.heap.size + 2) 30 [.int .i64 0, .int .i64 0, .slice none 0 0]) := Lib.hid (by rw [hw3]; exact ((Z2.out.other hz9 _).other hz9 _).other hz9 _)
  have O3 : Hid (w3.ownsRow w1.heap.size 69 7 (.slice a2 m c2) m (eCells es)) := Lib.hid (by rw [hw3]; exact row_set (row_set (row_set O2.out _ _ (row_ne O2.out T2.out (by decide))) _ _ (row_ne O2.out T2.out (by decide))) _ _ (row_ne O2.out T2.out (by decide)))
  have zz3 : w2.heap.size ≤ w3.heap.size := by rw [hw3]; simp
  rw [← hw3]
  clear hw3 D2 T2 Fb2 Z2 O2
  obtain ⟨⟨e1, e2, e3⟩, he⟩ : ∃ x, expT (N, R, es) now = x := ⟨_, rfl⟩
  have hle := exp_le he
  rw [HM.out] at hle
  have HEX := Lib.hid he
  have HEL : Hid (e3.length ≤ 1048576) := Lib.hid (by omega)
  clear hle
  obtain ⟨t_0, t_1, t_2, t_f⟩ := T3.out.three
  go_wp2_with fail
  refine (s_Exp_r HEX.out a2 m c2 _ HM.out hm (EntRow.ents O3.out) HOz.out).mono ?_
  rintro e w4 ⟨a4, c4, rfl, o4, g4⟩
  clear t_0 t_1 t_2 t_f
  have b4 := grown_below g4
  have zz4 := (b4).size
  have D4 := Lib.hid (Below.step D3.out b4 (by omega))
  have T4 := Lib.hid (T3.out.keep b4)
  have Fb4 := Lib.hid (Fb3.out.keep b4)
  have Z4 := Lib.hid (Z3.out.keep b4)
  have O4 := Lib.hid (row_below O3.out b4)
  clear D3 T3 Fb3 Z3 O3
  have X4 := Lib.hid (o4)
  have Xc := (row_cap o4).1
  have Xz := Lib.hid (own_none o4)
  clear b4 g4 o4
  obtain ⟨w5, hw5, b5, sz5, x5_0⟩ := head1 w4 30 [.int .i64 e1, .int .i64 e2, .slice a4 e3.length c4]
  have HW5 := Lib.hid hw5
  have zz5 := (b5).size
  have D5 := Lib.hid (Below.step D4.out b5 (by omega))
  have T5 := Lib.hid (T4.out.keep b5)
  have Fb5 := Lib.hid (Fb4.out.keep b5)
  have Z5 := Lib.hid (Z4.out.keep b5)
  have O5 := Lib.hid (row_below O4.out b5)
  have X5 := Lib.hid (row_below X4.out b5)
  clear D4 T4 Fb4 Z4 O4 X4
  have B5 := Lib.hid (x5_0)
  clear hw5 b5 x5_0
  go_upto_region 3 with fail
  rw [← HW5.out]
  rcases exp_size (t := (N, R, es)) (now := now) with ⟨hz0, hz⟩ | ⟨h1, h3, hz, hs1⟩
  · have h13 : (tv N R es && fitB es now) = false := by
      cases h : (tv N R es && fitB es now)
      · rfl
      · simp only [Bool.and_eq_true] at h
        exfalso
        have h9 : 1 ≤ N := (inB_true.1 (tv_parts h.1).1).1
        have h8 : expT (N, R, es) now = (N, R, es.filter (fun e => !oldB now R e)) := by unfold expT; rw [if_pos (by rw [h.1, h.2]; rfl)]
        rw [h8] at hz0
        exact absurd hz0 (by show ¬ N = 0; omega)
    rw [HEX.out] at hz
    simp only [Prod.mk.injEq] at hz
    obtain ⟨rfl, rfl, rfl⟩ := hz
    have h99 : (pv hs && tv N R es && fv (y0, y1, y2, y3, y4) && fitB es now) = false := by
      cases h1 : tv N R es
      · simp
      · rw [h1, Bool.true_and] at h13
        rw [h13, Bool.and_false]
    have HR : Hid (fwdT hs (N, R, es) (y0, y1, y2, y3, y4) now = ((0, 0, []), -1)) := Lib.hid (by rw [HQ.out, if_neg (by rw [h99]; exact Bool.false_ne_true)])
    clear HQ h13 h99 hz0 he
    obtain ⟨z_0, z_1, z_2, z_f⟩ := Z5.out.three
    obtain ⟨b_0, b_1, b_2, b_f⟩ := B5.out.three
    go_wp2
    refine bodyPost_ret (v := .tuple #[.agg #[.int .i64 0, .int .i64 0, .slice none 0 0], .int .i64 (-1)]) (by simp [results, Try.results23, go_sem, z_0, z_1, z_2]) rfl ?_
    exact retFz HR.out (((D5.out.setCell hlo8 _).setCell hlo8 _).setCell hlo8 _)
  · have h1 : tv N R es = true := h1
    have h3 : fitB es now = true := h3
    have he1 : e1 = N := by have := he.symm.trans hz; simp only [Prod.mk.injEq] at this; exact this.1
    have hs1 : 1 ≤ N := hs1
    have hs0 : ¬ e1 = 0 := by omega
    rw [he] at HQ
    clear hz he he1
    obtain ⟨b_0, b_1, b_2, b_f⟩ := B5.out.three
    go_wp2_with fail
    refine (s_PoolValid a n cap hs _ HX.out hn (HP.out.below D5.out)).mono ?_
    rintro e w6 ⟨rfl, b6⟩
    clear b_0 b_1 b_2 b_f
    have zz6 := (b6).size
    have D6 := Lib.hid (Below.step D5.out b6 (by omega))
    have T6 := Lib.hid (T5.out.keep b6)
    have Fb6 := Lib.hid (Fb5.out.keep b6)
    have Z6 := Lib.hid (Z5.out.keep b6)
    have O6 := Lib.hid (row_below O5.out b6)
    have X6 := Lib.hid (row_below X5.out b6)
    have B6 := Lib.hid (B5.out.keep b6)
    clear D5 T5 Fb5 Z5 O5 X5 B5
    clear b6
    cases h0 : pv hs
    · skip
      have HR : Hid (fwdT hs (N, R, es) (y0, y1, y2, y3, y4) now = ((0, 0, []), -1)) := Lib.hid (by rw [HQ.out, if_neg (by rw [h0]; simp)])
      clear HQ h0
      obtain ⟨z_0, z_1, z_2, z_f⟩ := Z6.out.three
      go_wp2
      refine bodyPost_ret (v := .tuple #[.agg #[.int .i64 0, .int .i64 0, .slice none 0 0], .int .i64 (-1)]) (by simp [results, Try.results23, go_sem, z_0, z_1, z_2]) rfl ?_
      exact retFz HR.out (((D6.out.setCell hlo8 _).setCell hlo8 _).setCell hlo8 _)
    obtain ⟨fb_0, fb_1, fb_2, fb_3, fb_4, fb_f⟩ := Fb6.out.five
    go_wp2_with fail
    refine (s_FlowValid (y0, y1, y2, y3, y4) _).mono ?_
    rintro e w7 ⟨rfl, b7⟩
    clear fb_0 fb_1 fb_2 fb_3 fb_4 fb_f
    have zz7 := (b7).size
    have D7 := Lib.hid (Below.step D6.out b7 (by omega))
    have T7 := Lib.hid (T6.out.keep b7)
    have Fb7 := Lib.hid (Fb6.out.keep b7)
    have Z7 := Lib.hid (Z6.out.keep b7)
    have O7 := Lib.hid (row_below O6.out b7)
    have X7 := Lib.hid (row_below X6.out b7)
    have B7 := Lib.hid (B6.out.keep b7)
    clear D6 T6 Fb6 Z6 O6 X6 B6
    clear b7
    cases h2 : fv (y0, y1, y2, y3, y4)
    · skip
      have HR : Hid (fwdT hs (N, R, es) (y0, y1, y2, y3, y4) now = ((0, 0, []), -1)) := Lib.hid (by rw [HQ.out, if_neg (by rw [h0, h1, h2]; simp)])
      clear HQ h0 h1 h2
      obtain ⟨z_0, z_1, z_2, z_f⟩ := Z7.out.three
      go_wp2
      refine bodyPost_ret (v := .tuple #[.agg #[.int .i64 0, .int .i64 0, .slice none 0 0], .int .i64 (-1)]) (by simp [results, Try.results23, go_sem, z_0, z_1, z_2]) rfl ?_
      exact retFz HR.out (((D7.out.setCell hlo8 _).setCell hlo8 _).setCell hlo8 _)
    have HQ2 := Lib.hid (HQ.out.trans (if_pos (by rw [h0, h1, h2, h3]; rfl)))
    clear HQ
    clear h0 h1 h2 h3
    clear O7
    obtain ⟨b_0, b_1, b_2, b_f⟩ := B7.out.three
    obtain ⟨fb_0, fb_1, fb_2, fb_3, fb_4, fb_f⟩ := Fb7.out.five
    go_wp2_with fail
    refine (s_ChooseHost a n cap hs e1 e2 a4 e3.length c4 e3 (y0, y1, y2, y3, y4) _ HX.out hn (HP.out.below D7.out) rfl HEL.out Xc (EntRow.ents X7.out)).mono ?_
    rintro e w8 ⟨rfl, b8⟩
    clear b_0 b_1 b_2 b_f fb_0 fb_1 fb_2 fb_3 fb_4 fb_f
    have zz8 := (b8).size
    have D8 := Lib.hid (Below.step D7.out b8 (by omega))
    have T8 := Lib.hid (T7.out.keep b8)
    have Fb8 := Lib.hid (Fb7.out.keep b8)
    have Z8 := Lib.hid (Z7.out.keep b8)
    have X8 := Lib.hid (row_below X7.out b8)
    have B8 := Lib.hid (B7.out.keep b8)
    clear D7 T7 Fb7 Z7 X7 B7
    clear b8
    obtain ⟨M, hM⟩ : ∃ M, chooseT hs (e1, e2, e3) (y0, y1, y2, y3, y4) = M := ⟨_, rfl⟩
    rw [hM] at HQ2 ⊢
    clear hM
    by_cases hM0 : M < 0
    · obtain ⟨⟨d1, d2, d3⟩, hd⟩ : ∃ x, dropT (e1, e2, e3) (y0, y1, y2, y3, y4) = x := ⟨_, rfl⟩
      have HDR := Lib.hid hd
      have HQ3 := Lib.hid (HQ2.out.trans (if_pos hM0))
      rw [hd] at HQ3
      clear hd HQ2
      obtain ⟨b_0, b_1, b_2, b_f⟩ := B8.out.three
      obtain ⟨fb_0, fb_1, fb_2, fb_3, fb_4, fb_f⟩ := Fb8.out.five
      go_wp2_with fail
      refine (s_Drop_r HDR.out a4 e3.length c4 _ rfl HEL.out Xc (EntRow.ents X8.out) Xz.out).mono ?_
      rintro e w9 ⟨a9, c9, rfl, o9, g9⟩
      clear b_0 b_1 b_2 b_f fb_0 fb_1 fb_2 fb_3 fb_4 fb_f
      have b9 := grown_below g9
      have zz9 := (b9).size
      have D9 := Lib.hid (Below.step D8.out b9 (by omega))
      have T9 := Lib.hid (T8.out.keep b9)
      have Fb9 := Lib.hid (Fb8.out.keep b9)
      have Z9 := Lib.hid (Z8.out.keep b9)
      have X9 := Lib.hid (row_below X8.out b9)
      have B9 := Lib.hid (B8.out.keep b9)
      clear D8 T8 Fb8 Z8 X8 B8
      have Y9 := Lib.hid (o9)
      have Yc := (row_cap o9).1
      have Yz := Lib.hid (own_none o9)
      clear b9 g9 o9
      obtain ⟨z_0, z_1, z_2, z_f⟩ := Z9.out.three
      have HR : Hid (fwdT hs (N, R, es) (y0, y1, y2, y3, y4) now = ((d1, d2, d3), (-1))) := Lib.hid (HQ3.out)
      have hne := row_ne Y9.out Z9.out (by decide)
      go_wp2
      refine bodyPost_ret (v := .tuple #[.agg #[.int .i64 d1, .int .i64 d2, .slice a9 d3.length c9], .int .i64 (-1)]) (by simp [results, Try.results23, go_sem, z_0, z_1, z_2]) rfl ?_
      exact retFw HR.out (row_wider (row_set (row_set (row_set Y9.out _ _ hne) _ _ hne) _ _ hne) (by omega)) (((D9.out.setCell hlo8 _).setCell hlo8 _).setCell hlo8 _)
    · obtain ⟨⟨⟨d1, d2, d3⟩, ok⟩, hd⟩ : ∃ x, touchT (e1, e2, e3) (y0, y1, y2, y3, y4) M now = x := ⟨_, rfl⟩
      have HDR := Lib.hid hd
      have HQ3 := Lib.hid (HQ2.out.trans (if_neg hM0))
      rw [hd] at HQ3
      clear hd HQ2
      obtain ⟨b_0, b_1, b_2, b_f⟩ := B8.out.three
      obtain ⟨fb_0, fb_1, fb_2, fb_3, fb_4, fb_f⟩ := Fb8.out.five
      go_wp2_with fail
      refine (s_Tou_r HDR.out a4 e3.length c4 _ rfl HEL.out Xc (EntRow.ents X8.out) Xz.out).mono ?_
      rintro e w9 ⟨a9, c9, rfl, o9, g9⟩
      clear b_0 b_1 b_2 b_f fb_0 fb_1 fb_2 fb_3 fb_4 fb_f
      have b9 := grown_below g9
      have zz9 := (b9).size
      have D9 := Lib.hid (Below.step D8.out b9 (by omega))
      have T9 := Lib.hid (T8.out.keep b9)
      have Fb9 := Lib.hid (Fb8.out.keep b9)
      have Z9 := Lib.hid (Z8.out.keep b9)
      have X9 := Lib.hid (row_below X8.out b9)
      have B9 := Lib.hid (B8.out.keep b9)
      clear D8 T8 Fb8 Z8 X8 B8
      have Y9 := Lib.hid (o9)
      have Yc := (row_cap o9).1
      have Yz := Lib.hid (own_none o9)
      clear b9 g9 o9
      obtain ⟨w10, hw10, b10, sz10, x10_0⟩ := head1 w9 30 [.int .i64 d1, .int .i64 d2, .slice a9 d3.length c9]
      have HW10 := Lib.hid hw10
      have zz10 := (b10).size
      have D10 := Lib.hid (Below.step D9.out b10 (by omega))
      have T10 := Lib.hid (T9.out.keep b10)
      have Fb10 := Lib.hid (Fb9.out.keep b10)
      have Z10 := Lib.hid (Z9.out.keep b10)
      have X10 := Lib.hid (row_below X9.out b10)
      have B10 := Lib.hid (B9.out.keep b10)
      have Y10 := Lib.hid (row_below Y9.out b10)
      clear D9 T9 Fb9 Z9 X9 B9 Y9
      have V10 := Lib.hid (x10_0)
      clear hw10 b10 x10_0
      go_upto_region 9 with fail
      rw [← HW10.out]
      obtain ⟨v_0, v_1, v_2, v_f⟩ := V10.out.three
      obtain ⟨z_0, z_1, z_2, z_f⟩ := Z10.out.three
      have HR : Hid (fwdT hs (N, R, es) (y0, y1, y2, y3, y4) now = ((d1, d2, d3), M)) := Lib.hid (HQ3.out)
      have hne := row_ne Y10.out Z10.out (by decide)
      go_wp2
      refine bodyPost_ret (v := .tuple #[.agg #[.int .i64 d1, .int .i64 d2, .slice a9 d3.length c9], .int .i64 M]) (by simp [results, Try.results23, go_sem, z_0, z_1, z_2]) rfl ?_
      exact retFw HR.out (row_wider (row_set (row_set (row_set Y10.out _ _ hne) _ _ hne) _ _ hne) (by omega)) (((D10.out.setCell hlo8 _).setCell hlo8 _).setCell hlo8 _)
end Go.Proofs.Ytdkdfehlmphikaa
