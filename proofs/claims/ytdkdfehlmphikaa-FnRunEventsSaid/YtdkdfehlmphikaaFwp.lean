/- ForwardPacket of the program. No condition but lists of at most 2^20. -/
import Derived.Test.YtdkdfehlmphikaaFwc
import Derived.Test.YtdkdfehlmphikaaVer
namespace Go.Proofs.Ytdkdfehlmphikaa
open Go.RowKit
/-- A table after a packet, and the packet's host. -/
def fwdT (hs : List H3) (t : T3) (f : F5) (now : Int) : T3 × Int :=
  if (pv hs && tv t.1 t.2.1 t.2.2 && fv f && fitB t.2.2 now) = true then
    (if chooseT hs (expT t now) f < 0 then (dropT (expT t now) f, -1) else ((touchT (expT t now) f (chooseT hs (expT t now) f) now).1, chooseT hs (expT t now) f))
  else ((0, 0, []), -1)
/-- A table and a host are handed back, the list a new one. -/
def RetFw (w : World) (q : T3 × Int) (e : Ending) (w' : World) : Prop :=
  ∃ (a : Option Addr) (cap : Nat), e = .returned (.tuple #[.agg #[.int .i64 q.1.1, .int .i64 q.1.2.1, .slice a q.1.2.2.length cap], .int .i64 q.2]) ∧ w'.ownsRow w.heap.size 69 7 (.slice a q.1.2.2.length cap) q.1.2.2.length (eCells q.1.2.2) ∧ w.grownBy w' none
theorem retFw {w w' : World} {q : T3 × Int} {d1 d2 h : Int} {d3 : List E7} (hq : q = ((d1, d2, d3), h)) {a : Option Addr} {cap : Nat} (o : w'.ownsRow w.heap.size 69 7 (.slice a d3.length cap) d3.length (eCells d3)) (hb : Below w.heap.size w w') :
    RetFw w q (.returned (.tuple #[.agg #[.int .i64 d1, .int .i64 d2, .slice a d3.length cap], .int .i64 h])) w' := by
  subst hq
  exact ⟨a, cap, rfl, o, below_grown hb⟩
theorem retFz {w w' : World} {q : T3 × Int} (hq : q = ((0, 0, []), -1)) (hb : Below w.heap.size w w') : RetFw w q (.returned (.tuple #[.agg #[.int .i64 0, .int .i64 0, .slice none 0 0], .int .i64 (-1)])) w' := by
  subst hq
  exact ⟨none, 0, rfl, row_nil _ _ _ _, below_grown hb⟩
set_option maxRecDepth 100000 in
set_option maxHeartbeats 8000000 in
theorem c_ForwardPacket (a : Option Addr) (n cap : Nat) (hs : List H3) (N R : Int) (b : Option Addr) (m cb : Nat) (es : List E7) (f : F5) (now : Int) (w : World) (hxs : hs.length = n) (hn : n ≤ 1048576) (hP : Hosts w a hs) (hms : es.length = m) (hm : m ≤ 1048576) (hE : Ents w b es) (hnn : b = none → m = 0 ∧ cb = 0) :
    Calls Try.prog 27 #[.slice a n cap, .agg #[.int .i64 N, .int .i64 R, .slice b m cb], fvv f, .int .i64 now] w (RetFw w (fwdT hs (N, R, es) f now)) := by
  obtain ⟨y0, y1, y2, y3, y4⟩ := f
  unfold fvv
  have HP := Lib.hid hP
  have HE := Lib.hid hE
  have HX := Lib.hid hxs
  have HM := Lib.hid hms
  have HNN := Lib.hid hnn
  clear hP hE hxs hms hnn
  have HQ : Hid (fwdT hs (N, R, es) (y0, y1, y2, y3, y4) now = if (pv hs && tv N R es && fv (y0, y1, y2, y3, y4) && fitB es now) = true then (if chooseT hs (expT (N, R, es) now) (y0, y1, y2, y3, y4) < 0 then (dropT (expT (N, R, es) now) (y0, y1, y2, y3, y4), -1) else ((touchT (expT (N, R, es) now) (y0, y1, y2, y3, y4) (chooseT hs (expT (N, R, es) now) (y0, y1, y2, y3, y4)) now).1, chooseT hs (expT (N, R, es) now) (y0, y1, y2, y3, y4))) else ((0, 0, []), -1)) := Lib.hid rfl
  go_enter Try.func27, Try.ntmps27
  have D0 := Lib.hid (Below.refl w.heap.size w)
  obtain ⟨w1, hw1, b1, sz1, x1_0, x1_1, x1_2⟩ := head3 w 30 37 30 [.int .i64 N, .int .i64 R, .slice b m cb] [.int .i64 y0, .int .i64 y1, .int .i64 y2, .int .i64 y3, .int .i64 y4] [.int .i64 0, .int .i64 0, .slice none 0 0]
  have HW1 := Lib.hid hw1
  have zz1 := (b1).size
  have D1 := Lib.hid (Below.step D0.out b1 (by omega))
  clear D0
  have T1 := Lib.hid (x1_0)
  have Fb1 := Lib.hid (x1_1)
  have Z1 := Lib.hid (x1_2)
  clear hw1 b1 x1_0 x1_1 x1_2
  have hlo9 : w.heap.size ≤ w.heap.size := Nat.le_refl _
  have hlo8 : w.heap.size ≤ w.heap.size + 2 := by omega
  have hf9 : w.heap.size + 1 ≠ w.heap.size := by omega
  have hz9 : w.heap.size + 2 ≠ w.heap.size := by omega
  have hn1 : ¬ w.heap.size = w.heap.size + 1 := by omega
  have hn2 : ¬ w.heap.size = w.heap.size + 2 := by omega
  have hn3 : ¬ w.heap.size + 1 = w.heap.size + 2 := by omega
  go_wp2_with fail
  rw [← HW1.out]
  refine (c_PoolValid a n cap hs _ HX.out hn (HP.out.below D1.out)).mono ?_
  rintro e w2 ⟨rfl, b2⟩
  have zz2 := (b2).size
  have D2 := Lib.hid (Below.step D1.out b2 (by omega))
  have T2 := Lib.hid (T1.out.keep b2)
  have Fb2 := Lib.hid (Fb1.out.keep b2)
  have Z2 := Lib.hid (Z1.out.keep b2)
  clear D1 T1 Fb1 Z1
  clear b2
  cases h0 : pv hs
  · skip
    have HR : Hid (fwdT hs (N, R, es) (y0, y1, y2, y3, y4) now = ((0, 0, []), -1)) := Lib.hid (by rw [HQ.out, if_neg (by rw [h0]; simp)])
    clear HQ h0
    obtain ⟨z_0, z_1, z_2, z_f⟩ := Z2.out.three
    go_wp2
    refine bodyPost_ret (v := .tuple #[.agg #[.int .i64 0, .int .i64 0, .slice none 0 0], .int .i64 (-1)]) (by simp [results, Try.results27, go_sem, z_0, z_1, z_2]) rfl ?_
    exact retFz HR.out (((D2.out.setCell hlo8 _).setCell hlo8 _).setCell hlo8 _)
  obtain ⟨t_0, t_1, t_2, t_f⟩ := T2.out.three
  go_wp2_with fail
  refine (c_TableValid N R b m cb es _ HM.out hm (HE.out.below D2.out)).mono ?_
  rintro e w3 ⟨rfl, b3⟩
  clear t_0 t_1 t_2 t_f
  have zz3 := (b3).size
  have D3 := Lib.hid (Below.step D2.out b3 (by omega))
  have T3 := Lib.hid (T2.out.keep b3)
  have Fb3 := Lib.hid (Fb2.out.keep b3)
  have Z3 := Lib.hid (Z2.out.keep b3)
  clear D2 T2 Fb2 Z2
  clear b3
  cases h1 : tv N R es
  · skip
    have HR : Hid (fwdT hs (N, R, es) (y0, y1, y2, y3, y4) now = ((0, 0, []), -1)) := Lib.hid (by rw [HQ.out, if_neg (by rw [h0, h1]; simp)])
    clear HQ h0 h1
    obtain ⟨z_0, z_1, z_2, z_f⟩ := Z3.out.three
    go_wp2
    refine bodyPost_ret (v := .tuple #[.agg #[.int .i64 0, .int .i64 0, .slice none 0 0], .int .i64 (-1)]) (by simp [results, Try.results27, go_sem, z_0, z_1, z_2]) rfl ?_
    exact retFz HR.out (((D3.out.setCell hlo8 _).setCell hlo8 _).setCell hlo8 _)
  obtain ⟨fb_0, fb_1, fb_2, fb_3, fb_4, fb_f⟩ := Fb3.out.five
  go_wp2_with fail
  refine (c_FlowValid (y0, y1, y2, y3, y4) _).mono ?_
  rintro e w4 ⟨rfl, b4⟩
  clear fb_0 fb_1 fb_2 fb_3 fb_4 fb_f
  have zz4 := (b4).size
  have D4 := Lib.hid (Below.step D3.out b4 (by omega))
  have T4 := Lib.hid (T3.out.keep b4)
  have Fb4 := Lib.hid (Fb3.out.keep b4)
  have Z4 := Lib.hid (Z3.out.keep b4)
  clear D3 T3 Fb3 Z3
  clear b4
  cases h2 : fv (y0, y1, y2, y3, y4)
  · skip
    have HR : Hid (fwdT hs (N, R, es) (y0, y1, y2, y3, y4) now = ((0, 0, []), -1)) := Lib.hid (by rw [HQ.out, if_neg (by rw [h0, h1, h2]; simp)])
    clear HQ h0 h1 h2
    obtain ⟨z_0, z_1, z_2, z_f⟩ := Z4.out.three
    go_wp2
    refine bodyPost_ret (v := .tuple #[.agg #[.int .i64 0, .int .i64 0, .slice none 0 0], .int .i64 (-1)]) (by simp [results, Try.results27, go_sem, z_0, z_1, z_2]) rfl ?_
    exact retFz HR.out (((D4.out.setCell hlo8 _).setCell hlo8 _).setCell hlo8 _)
  obtain ⟨t_0, t_1, t_2, t_f⟩ := T4.out.three
  go_wp2_with fail
  refine (c_fits N R now b m cb es _ HM.out hm (HE.out.below D4.out)).mono ?_
  rintro e w5 ⟨rfl, b5⟩
  clear t_0 t_1 t_2 t_f
  have zz5 := (b5).size
  have D5 := Lib.hid (Below.step D4.out b5 (by omega))
  have T5 := Lib.hid (T4.out.keep b5)
  have Fb5 := Lib.hid (Fb4.out.keep b5)
  have Z5 := Lib.hid (Z4.out.keep b5)
  clear D4 T4 Fb4 Z4
  clear b5
  cases h3 : fitB es now
  · skip
    have HR : Hid (fwdT hs (N, R, es) (y0, y1, y2, y3, y4) now = ((0, 0, []), -1)) := Lib.hid (by rw [HQ.out, if_neg (by rw [h0, h1, h2, h3]; simp)])
    clear HQ h0 h1 h2 h3
    obtain ⟨z_0, z_1, z_2, z_f⟩ := Z5.out.three
    go_wp2
    refine bodyPost_ret (v := .tuple #[.agg #[.int .i64 0, .int .i64 0, .slice none 0 0], .int .i64 (-1)]) (by simp [results, Try.results27, go_sem, z_0, z_1, z_2]) rfl ?_
    exact retFz HR.out (((D5.out.setCell hlo8 _).setCell hlo8 _).setCell hlo8 _)
  have HQ2 := Lib.hid (HQ.out.trans (if_pos (by rw [h0, h1, h2, h3]; rfl)))
  clear HQ
  obtain ⟨⟨e1, e2, e3⟩, he⟩ : ∃ x, expT (N, R, es) now = x := ⟨_, rfl⟩
  have hle := exp_le he
  rw [HM.out] at hle
  have HEX := Lib.hid he
  have HEL : Hid (e3.length ≤ 1048576) := Lib.hid (by omega)
  rw [he] at HQ2
  clear h0 h1 h2 h3 he hle
  obtain ⟨t_0, t_1, t_2, t_f⟩ := T5.out.three
  go_wp2_with fail
  refine (c_Exp_r HEX.out b m cb _ HM.out hm (HE.out.below D5.out) HNN.out).mono ?_
  rintro e w6 ⟨a6, c6, rfl, o6, g6⟩
  clear t_0 t_1 t_2 t_f
  have b6 := grown_below g6
  have zz6 := (b6).size
  have D6 := Lib.hid (Below.step D5.out b6 (by omega))
  have T6 := Lib.hid (T5.out.keep b6)
  have Fb6 := Lib.hid (Fb5.out.keep b6)
  have Z6 := Lib.hid (Z5.out.keep b6)
  clear D5 T5 Fb5 Z5
  have X6 := Lib.hid (o6)
  have Xc := (row_cap o6).1
  have Xz := Lib.hid (own_none o6)
  clear b6 g6 o6
  obtain ⟨t_0, t_1, t_2, t_f⟩ := T6.out.three
  go_upto_region 4 with fail
  clear t_0 t_1 t_2 t_f
  obtain ⟨w7, hw7⟩ : ∃ W, W = ((w6.setCell ⟨w.heap.size, 0, none⟩ (.int .i64 e1)).setCell ⟨w.heap.size, 1, none⟩ (.int .i64 e2)).setCell ⟨w.heap.size, 2, none⟩ (.slice a6 e3.length c6) := ⟨_, rfl⟩
  have D7 : Hid (Below w.heap.size w w7) := Lib.hid (by rw [hw7]; exact ((D6.out.setCell hlo9 _).setCell hlo9 _).setCell hlo9 _)
  have T7 : Hid (Box w7 w.heap.size 30 [.int .i64 e1, .int .i64 e2, .slice a6 e3.length c6]) := Lib.hid (by rw [hw7]; exact ((T6.out.set 0 _).set 1 _).set 2 _)
  have Fb7 : Hid (Box w7 (w.heap.size + 1) 37 [.int .i64 y0, .int .i64 y1, .int .i64 y2, .int .i64 y3, .int .i64 y4]) := Lib.hid (by rw [hw7]; exact ((Fb6.out.other hf9 _).other hf9 _).other hf9 _)
  have Z7 : Hid (Box w7 (w.heap.size + 2) 30 [.int .i64 0, .int .i64 0, .slice none 0 0]) := Lib.hid (by rw [hw7]; exact ((Z6.out.other hz9 _).other hz9 _).other hz9 _)
  have X7 : Hid (w7.ownsRow w5.heap.size 69 7 (.slice a6 e3.length c6) e3.length (eCells e3)) := Lib.hid (by rw [hw7]; exact row_set (row_set (row_set X6.out _ _ (row_ne X6.out T6.out (by decide))) _ _ (row_ne X6.out T6.out (by decide))) _ _ (row_ne X6.out T6.out (by decide)))
  have zz7 : w6.heap.size ≤ w7.heap.size := by rw [hw7]; simp
  rw [← hw7]
  clear hw7 D6 T6 Fb6 Z6 X6
  obtain ⟨t_0, t_1, t_2, t_f⟩ := T7.out.three
  obtain ⟨fb_0, fb_1, fb_2, fb_3, fb_4, fb_f⟩ := Fb7.out.five
  go_wp2_with fail
  refine (c_ChooseHost a n cap hs e1 e2 a6 e3.length c6 e3 (y0, y1, y2, y3, y4) _ HX.out hn (HP.out.below D7.out) rfl HEL.out (EntRow.ents X7.out)).mono ?_
  rintro e w8 ⟨rfl, b8⟩
  clear t_0 t_1 t_2 t_f fb_0 fb_1 fb_2 fb_3 fb_4 fb_f
  have zz8 := (b8).size
  have D8 := Lib.hid (Below.step D7.out b8 (by omega))
  have T8 := Lib.hid (T7.out.keep b8)
  have Fb8 := Lib.hid (Fb7.out.keep b8)
  have Z8 := Lib.hid (Z7.out.keep b8)
  have X8 := Lib.hid (row_below X7.out b8)
  clear D7 T7 Fb7 Z7 X7
  clear b8
  obtain ⟨M, hM⟩ : ∃ M, chooseT hs (e1, e2, e3) (y0, y1, y2, y3, y4) = M := ⟨_, rfl⟩
  rw [hM] at HQ2 ⊢
  clear hM
  by_cases hM0 : M < 0
  · obtain ⟨⟨d1, d2, d3⟩, hd⟩ : ∃ x, dropT (e1, e2, e3) (y0, y1, y2, y3, y4) = x := ⟨_, rfl⟩
    have HDR := Lib.hid hd
    have HQ3 := Lib.hid (HQ2.out.trans (if_pos hM0))
    rw [hd] at HQ3
    clear hd HQ2
    obtain ⟨t_0, t_1, t_2, t_f⟩ := T8.out.three
    obtain ⟨fb_0, fb_1, fb_2, fb_3, fb_4, fb_f⟩ := Fb8.out.five
    go_wp2_with fail
    refine (c_Drop_r HDR.out a6 e3.length c6 _ rfl HEL.out (EntRow.ents X8.out) Xz.out).mono ?_
    rintro e w9 ⟨a9, c9, rfl, o9, g9⟩
    clear t_0 t_1 t_2 t_f fb_0 fb_1 fb_2 fb_3 fb_4 fb_f
    have b9 := grown_below g9
    have zz9 := (b9).size
    have D9 := Lib.hid (Below.step D8.out b9 (by omega))
    have T9 := Lib.hid (T8.out.keep b9)
    have Fb9 := Lib.hid (Fb8.out.keep b9)
    have Z9 := Lib.hid (Z8.out.keep b9)
    have X9 := Lib.hid (row_below X8.out b9)
    clear D8 T8 Fb8 Z8 X8
    have Y9 := Lib.hid (o9)
    have Yc := (row_cap o9).1
    have Yz := Lib.hid (own_none o9)
    clear b9 g9 o9
    obtain ⟨z_0, z_1, z_2, z_f⟩ := Z9.out.three
    have HR : Hid (fwdT hs (N, R, es) (y0, y1, y2, y3, y4) now = ((d1, d2, d3), (-1))) := Lib.hid (HQ3.out)
    have hne := row_ne Y9.out Z9.out (by decide)
    go_wp2
    refine bodyPost_ret (v := .tuple #[.agg #[.int .i64 d1, .int .i64 d2, .slice a9 d3.length c9], .int .i64 (-1)]) (by simp [results, Try.results27, go_sem, z_0, z_1, z_2]) rfl ?_
    exact retFw HR.out (row_wider (row_set (row_set (row_set Y9.out _ _ hne) _ _ hne) _ _ hne) (by omega)) (((D9.out.setCell hlo8 _).setCell hlo8 _).setCell hlo8 _)
  · obtain ⟨⟨⟨d1, d2, d3⟩, ok⟩, hd⟩ : ∃ x, touchT (e1, e2, e3) (y0, y1, y2, y3, y4) M now = x := ⟨_, rfl⟩
    have HDR := Lib.hid hd
    have HQ3 := Lib.hid (HQ2.out.trans (if_neg hM0))
    rw [hd] at HQ3
    clear hd HQ2
    obtain ⟨t_0, t_1, t_2, t_f⟩ := T8.out.three
    obtain ⟨fb_0, fb_1, fb_2, fb_3, fb_4, fb_f⟩ := Fb8.out.five
    go_wp2_with fail
    refine (c_Tou_r HDR.out a6 e3.length c6 _ rfl HEL.out (EntRow.ents X8.out) Xz.out).mono ?_
    rintro e w9 ⟨a9, c9, rfl, o9, g9⟩
    clear t_0 t_1 t_2 t_f fb_0 fb_1 fb_2 fb_3 fb_4 fb_f
    have b9 := grown_below g9
    have zz9 := (b9).size
    have D9 := Lib.hid (Below.step D8.out b9 (by omega))
    have T9 := Lib.hid (T8.out.keep b9)
    have Fb9 := Lib.hid (Fb8.out.keep b9)
    have Z9 := Lib.hid (Z8.out.keep b9)
    have X9 := Lib.hid (row_below X8.out b9)
    clear D8 T8 Fb8 Z8 X8
    have Y9 := Lib.hid (o9)
    have Yc := (row_cap o9).1
    have Yz := Lib.hid (own_none o9)
    clear b9 g9 o9
    obtain ⟨w10, hw10, b10, sz10, x10_0⟩ := head1 w9 30 [.int .i64 d1, .int .i64 d2, .slice a9 d3.length c9]
    have HW10 := Lib.hid hw10
    have zz10 := (b10).size
    have D10 := Lib.hid (Below.step D9.out b10 (by omega))
    have T10 := Lib.hid (T9.out.keep b10)
    have Fb10 := Lib.hid (Fb9.out.keep b10)
    have Z10 := Lib.hid (Z9.out.keep b10)
    have X10 := Lib.hid (row_below X9.out b10)
    have Y10 := Lib.hid (row_below Y9.out b10)
    clear D9 T9 Fb9 Z9 X9 Y9
    have V10 := Lib.hid (x10_0)
    clear hw10 b10 x10_0
    go_upto_region 8 with fail
    rw [← HW10.out]
    obtain ⟨v_0, v_1, v_2, v_f⟩ := V10.out.three
    obtain ⟨z_0, z_1, z_2, z_f⟩ := Z10.out.three
    have HR : Hid (fwdT hs (N, R, es) (y0, y1, y2, y3, y4) now = ((d1, d2, d3), M)) := Lib.hid (HQ3.out)
    have hne := row_ne Y10.out Z10.out (by decide)
    go_wp2
    refine bodyPost_ret (v := .tuple #[.agg #[.int .i64 d1, .int .i64 d2, .slice a9 d3.length c9], .int .i64 M]) (by simp [results, Try.results27, go_sem, z_0, z_1, z_2]) rfl ?_
    exact retFw HR.out (row_wider (row_set (row_set (row_set Y10.out _ _ hne) _ _ hne) _ _ hne) (by omega)) (((D10.out.setCell hlo8 _).setCell hlo8 _).setCell hlo8 _)
end Go.Proofs.Ytdkdfehlmphikaa
