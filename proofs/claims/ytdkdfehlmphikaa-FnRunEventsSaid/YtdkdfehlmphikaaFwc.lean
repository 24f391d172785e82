/- ChooseHost of both. No condition but lists of at most 2^20. -/
import Derived.Test.YtdkdfehlmphikaaFwh
import Derived.Test.YtdkdfehlmphikaaME
namespace Go.Proofs.Ytdkdfehlmphikaa
open Go.RowKit
/-- The host for a packet, or -1. -/
def chooseT (hs : List H3) (t : T3) (f : F5) : Int :=
  if (pv hs && tv t.1 t.2.1 t.2.2 && fv f) = true then (if 0 ≤ findT t f ∧ stV hs (findT t f) ≠ 0 then findT t f else rendV hs (hashV f)) else -1
set_option maxRecDepth 100000 in
set_option maxHeartbeats 4000000 in
theorem c_ChooseHost (a : Option Addr) (n cap : Nat) (hs : List H3) (N R : Int) (b : Option Addr) (m cb : Nat) (es : List E7) (f : F5) (w : World) (hxs : hs.length = n) (hn : n ≤ 1048576) (hP : Hosts w a hs) (hms : es.length = m) (hm : m ≤ 1048576) (hE : Ents w b es) :
    Calls Try.prog 72 #[.slice a n cap, .agg #[.int .i64 N, .int .i64 R, .slice b m cb], fvv f] w fun e w' => e = .returned (.int .i64 (chooseT hs (N, R, es) f)) ∧ Below w.heap.size w w' := by
  obtain ⟨y0, y1, y2, y3, y4⟩ := f
  unfold fvv
  have HP := Lib.hid hP
  have HE := Lib.hid hE
  have HX := Lib.hid hxs
  have HM := Lib.hid hms
  clear hP hE hxs hms
  have HQ : Hid (chooseT hs (N, R, es) (y0, y1, y2, y3, y4) = if (pv hs && tv N R es && fv (y0, y1, y2, y3, y4)) = true then (if 0 ≤ findT (N, R, es) (y0, y1, y2, y3, y4) ∧ stV hs (findT (N, R, es) (y0, y1, y2, y3, y4)) ≠ 0 then findT (N, R, es) (y0, y1, y2, y3, y4) else rendV hs (hashV (y0, y1, y2, y3, y4))) else -1) := Lib.hid rfl
  go_enter Try.func72, Try.ntmps72
  have D0 := Lib.hid (Below.refl w.heap.size w)
  obtain ⟨w1, hw1, b1, sz1, x1_0, x1_1⟩ := headB w 30 37 [.int .i64 N, .int .i64 R, .slice b m cb] [.int .i64 y0, .int .i64 y1, .int .i64 y2, .int .i64 y3, .int .i64 y4]
  have HW1 := Lib.hid hw1
  have zz1 := (b1).size
  have D1 := Lib.hid (Below.step D0.out b1 (by omega))
  clear D0
  have T1 := Lib.hid (x1_0)
  have Fb1 := Lib.hid (x1_1)
  clear hw1 b1 x1_0 x1_1
  go_wp2_with fail
  rw [← HW1.out]
  refine (c_PoolValid a n cap hs _ HX.out hn (HP.out.below D1.out)).mono ?_
  rintro e w2 ⟨rfl, b2⟩
  have zz2 := (b2).size
  have D2 := Lib.hid (Below.step D1.out b2 (by omega))
  have T2 := Lib.hid (T1.out.keep b2)
  have Fb2 := Lib.hid (Fb1.out.keep b2)
  clear D1 T1 Fb1
  clear b2
  cases h0 : pv hs
  · have HR : Hid (chooseT hs (N, R, es) (y0, y1, y2, y3, y4) = -1) := Lib.hid (by rw [HQ.out, h0]; simp)
    clear HQ h0
    obtain ⟨t_0, t_1, t_2, t_f⟩ := T2.out.three
    obtain ⟨fb_0, fb_1, fb_2, fb_3, fb_4, fb_f⟩ := Fb2.out.five
    go_wp2
    go_ret
    exact ⟨ret_int HR.out.symm, D2.out⟩
  obtain ⟨t_0, t_1, t_2, t_f⟩ := T2.out.three
  go_wp2_with fail
  refine (c_TableValid N R b m cb es _ HM.out hm (HE.out.below D2.out)).mono ?_
  rintro e w3 ⟨rfl, b3⟩
  clear t_0 t_1 t_2 t_f
  have zz3 := (b3).size
  have D3 := Lib.hid (Below.step D2.out b3 (by omega))
  have T3 := Lib.hid (T2.out.keep b3)
  have Fb3 := Lib.hid (Fb2.out.keep b3)
  clear D2 T2 Fb2
  clear b3
  cases h1 : tv N R es
  · have HR : Hid (chooseT hs (N, R, es) (y0, y1, y2, y3, y4) = -1) := Lib.hid (by rw [HQ.out, h0, h1]; simp)
    clear HQ h0 h1
    obtain ⟨t_0, t_1, t_2, t_f⟩ := T3.out.three
    obtain ⟨fb_0, fb_1, fb_2, fb_3, fb_4, fb_f⟩ := Fb3.out.five
    go_wp2
    go_ret
    exact ⟨ret_int HR.out.symm, D3.out⟩
  obtain ⟨fb_0, fb_1, fb_2, fb_3, fb_4, fb_f⟩ := Fb3.out.five
  go_wp2_with fail
  refine (c_FlowValid (y0, y1, y2, y3, y4) _).mono ?_
  rintro e w4 ⟨rfl, b4⟩
  clear fb_0 fb_1 fb_2 fb_3 fb_4 fb_f
  have zz4 := (b4).size
  have D4 := Lib.hid (Below.step D3.out b4 (by omega))
  have T4 := Lib.hid (T3.out.keep b4)
  have Fb4 := Lib.hid (Fb3.out.keep b4)
  clear D3 T3 Fb3
  clear b4
  cases h2 : fv (y0, y1, y2, y3, y4)
  · have HR : Hid (chooseT hs (N, R, es) (y0, y1, y2, y3, y4) = -1) := Lib.hid (by rw [HQ.out, h0, h1, h2]; simp)
    clear HQ h0 h1 h2
    obtain ⟨t_0, t_1, t_2, t_f⟩ := T4.out.three
    obtain ⟨fb_0, fb_1, fb_2, fb_3, fb_4, fb_f⟩ := Fb4.out.five
    go_wp2
    go_ret
    exact ⟨ret_int HR.out.symm, D4.out⟩
  have HQ2 := Lib.hid (HQ.out.trans (if_pos (by rw [h0, h1, h2]; rfl)))
  clear HQ h0 h1 h2
  obtain ⟨t_0, t_1, t_2, t_f⟩ := T4.out.three
  obtain ⟨fb_0, fb_1, fb_2, fb_3, fb_4, fb_f⟩ := Fb4.out.five
  go_wp2_with fail
  refine (c_FindFlow N R (y0, y1, y2, y3, y4) b m cb es _ HM.out hm (HE.out.below D4.out)).mono ?_
  rintro e w5 ⟨rfl, b5⟩
  clear t_0 t_1 t_2 t_f fb_0 fb_1 fb_2 fb_3 fb_4 fb_f
  have zz5 := (b5).size
  have D5 := Lib.hid (Below.step D4.out b5 (by omega))
  have T5 := Lib.hid (T4.out.keep b5)
  have Fb5 := Lib.hid (Fb4.out.keep b5)
  clear D4 T4 Fb4
  clear b5
  obtain ⟨M, hM⟩ : ∃ M, findT (N, R, es) (y0, y1, y2, y3, y4) = M := ⟨_, rfl⟩
  rw [hM] at HQ2 ⊢
  clear hM
  by_cases hM0 : 0 ≤ M
  · skip
    go_wp2_with fail
    refine (c_HostState a n cap hs M _ HX.out hn (HP.out.below D5.out)).mono ?_
    rintro e w6 ⟨rfl, b6⟩
    have zz6 := (b6).size
    have D6 := Lib.hid (Below.step D5.out b6 (by omega))
    have T6 := Lib.hid (T5.out.keep b6)
    have Fb6 := Lib.hid (Fb5.out.keep b6)
    clear D5 T5 Fb5
    clear b6
    by_cases hS : stV hs M = 0
    · rw [hS]
      have HR := Lib.hid (HQ2.out.trans (if_neg (fun h => h.2 hS)))
      clear HQ2
      obtain ⟨fb_0, fb_1, fb_2, fb_3, fb_4, fb_f⟩ := Fb6.out.five
      go_wp2_with fail
      refine (c_FlowHash (y0, y1, y2, y3, y4) _).mono ?_
      rintro e w7 ⟨rfl, b7⟩
      clear fb_0 fb_1 fb_2 fb_3 fb_4 fb_f
      have zz7 := (b7).size
      have D7 := Lib.hid (Below.step D6.out b7 (by omega))
      have T7 := Lib.hid (T6.out.keep b7)
      have Fb7 := Lib.hid (Fb6.out.keep b7)
      clear D6 T6 Fb6
      clear b7
      go_wp2_with fail
      refine (c_RendezvousHost a n cap hs _ _ HX.out hn (HP.out.below D7.out)).mono ?_
      rintro e w8 ⟨rfl, b8⟩
      have zz8 := (b8).size
      have D8 := Lib.hid (Below.step D7.out b8 (by omega))
      have T8 := Lib.hid (T7.out.keep b8)
      have Fb8 := Lib.hid (Fb7.out.keep b8)
      clear D7 T7 Fb7
      clear b8
      go_wp2
      go_ret
      exact ⟨ret_int HR.out.symm, D8.out⟩
    · have HR := Lib.hid (HQ2.out.trans (if_pos ⟨hM0, hS⟩))
      clear HQ2
      generalize stV hs M = S at *
      go_wp2
      go_ret
      exact ⟨ret_int HR.out.symm, D6.out⟩
  · skip
    have HR := Lib.hid (HQ2.out.trans (if_neg (fun h => hM0 h.1)))
    clear HQ2
    obtain ⟨fb_0, fb_1, fb_2, fb_3, fb_4, fb_f⟩ := Fb5.out.five
    go_wp2_with fail
    refine (c_FlowHash (y0, y1, y2, y3, y4) _).mono ?_
    rintro e w6 ⟨rfl, b6⟩
    clear fb_0 fb_1 fb_2 fb_3 fb_4 fb_f
    have zz6 := (b6).size
    have D6 := Lib.hid (Below.step D5.out b6 (by omega))
    have T6 := Lib.hid (T5.out.keep b6)
    have Fb6 := Lib.hid (Fb5.out.keep b6)
    clear D5 T5 Fb5
    clear b6
    go_wp2_with fail
    refine (c_RendezvousHost a n cap hs _ _ HX.out hn (HP.out.below D6.out)).mono ?_
    rintro e w7 ⟨rfl, b7⟩
    have zz7 := (b7).size
    have D7 := Lib.hid (Below.step D6.out b7 (by omega))
    have T7 := Lib.hid (T6.out.keep b7)
    have Fb7 := Lib.hid (Fb6.out.keep b7)
    clear D6 T6 Fb6
    clear b7
    go_wp2
    go_ret
    exact ⟨ret_int HR.out.symm, D7.out⟩
set_option maxRecDepth 100000 in
set_option maxHeartbeats 4000000 in
theorem s_ChooseHost (a : Option Addr) (n cap : Nat) (hs : List H3) (N R : Int) (b : Option Addr) (m cb : Nat) (es : List E7) (f : F5) (w : World) (hxs : hs.length = n) (hn : n ≤ 1048576) (hP : Hosts w a hs) (hms : es.length = m) (hm : m ≤ 1048576) (hcb : m ≤ cb) (hE : Ents w b es) :
    Calls Try.prog 68 #[.slice a n cap, .agg #[.int .i64 N, .int .i64 R, .slice b m cb], fvv f] w fun e w' => e = .returned (.int .i64 (chooseT hs (N, R, es) f)) ∧ Below w.heap.size w w' := by
  obtain ⟨y0, y1, y2, y3, y4⟩ := f
  unfold fvv
  have HP := Lib.hid hP
  have HE := Lib.hid hE
  have HX := Lib.hid hxs
  have HM := Lib.hid hms
  clear hP hE hxs hms
  have HQ : Hid (chooseT hs (N, R, es) (y0, y1, y2, y3, y4) = if (pv hs && tv N R es && fv (y0, y1, y2, y3, y4)) = true then (if 0 ≤ findT (N, R, es) (y0, y1, y2, y3, y4) ∧ stV hs (findT (N, R, es) (y0, y1, y2, y3, y4)) ≠ 0 then findT (N, R, es) (y0, y1, y2, y3, y4) else rendV hs (hashV (y0, y1, y2, y3, y4))) else -1) := Lib.hid rfl
  go_enter Try.func68, Try.ntmps68
  have D0 := Lib.hid (Below.refl w.heap.size w)
  obtain ⟨w1, hw1, b1, sz1, x1_0, x1_1⟩ := headB w 30 37 [.int .i64 N, .int .i64 R, .slice b m cb] [.int .i64 y0, .int .i64 y1, .int .i64 y2, .int .i64 y3, .int .i64 y4]
  have HW1 := Lib.hid hw1
  have zz1 := (b1).size
  have D1 := Lib.hid (Below.step D0.out b1 (by omega))
  clear D0
  have T1 := Lib.hid (x1_0)
  have Fb1 := Lib.hid (x1_1)
  clear hw1 b1 x1_0 x1_1
  go_wp2_with fail
  rw [← HW1.out]
  refine (s_PoolValid a n cap hs _ HX.out hn (HP.out.below D1.out)).mono ?_
  rintro e w2 ⟨rfl, b2⟩
  have zz2 := (b2).size
  have D2 := Lib.hid (Below.step D1.out b2 (by omega))
  have T2 := Lib.hid (T1.out.keep b2)
  have Fb2 := Lib.hid (Fb1.out.keep b2)
  clear D1 T1 Fb1
  clear b2
  cases h0 : pv hs
  · have HR : Hid (chooseT hs (N, R, es) (y0, y1, y2, y3, y4) = -1) := Lib.hid (by rw [HQ.out, h0]; simp)
    clear HQ h0
    obtain ⟨t_0, t_1, t_2, t_f⟩ := T2.out.three
    obtain ⟨fb_0, fb_1, fb_2, fb_3, fb_4, fb_f⟩ := Fb2.out.five
    go_wp2
    go_ret
    exact ⟨ret_int HR.out.symm, D2.out⟩
  obtain ⟨t_0, t_1, t_2, t_f⟩ := T2.out.three
  go_wp2_with fail
  refine (s_TableValid N R b m cb es _ HM.out hm hcb (HE.out.below D2.out)).mono ?_
  rintro e w3 ⟨rfl, b3⟩
  clear t_0 t_1 t_2 t_f
  have zz3 := (b3).size
  have D3 := Lib.hid (Below.step D2.out b3 (by omega))
  have T3 := Lib.hid (T2.out.keep b3)
  have Fb3 := Lib.hid (Fb2.out.keep b3)
  clear D2 T2 Fb2
  clear b3
  cases h1 : tv N R es
  · have HR : Hid (chooseT hs (N, R, es) (y0, y1, y2, y3, y4) = -1) := Lib.hid (by rw [HQ.out, h0, h1]; simp)
    clear HQ h0 h1
    obtain ⟨t_0, t_1, t_2, t_f⟩ := T3.out.three
    obtain ⟨fb_0, fb_1, fb_2, fb_3, fb_4, fb_f⟩ := Fb3.out.five
    go_wp2
    go_ret
    exact ⟨ret_int HR.out.symm, D3.out⟩
  obtain ⟨fb_0, fb_1, fb_2, fb_3, fb_4, fb_f⟩ := Fb3.out.five
  go_wp2_with fail
  refine (s_FlowValid (y0, y1, y2, y3, y4) _).mono ?_
  rintro e w4 ⟨rfl, b4⟩
  clear fb_0 fb_1 fb_2 fb_3 fb_4 fb_f
  have zz4 := (b4).size
  have D4 := Lib.hid (Below.step D3.out b4 (by omega))
  have T4 := Lib.hid (T3.out.keep b4)
  have Fb4 := Lib.hid (Fb3.out.keep b4)
  clear D3 T3 Fb3
  clear b4
  cases h2 : fv (y0, y1, y2, y3, y4)
  · have HR : Hid (chooseT hs (N, R, es) (y0, y1, y2, y3, y4) = -1) := Lib.hid (by rw [HQ.out, h0, h1, h2]; simp)
    clear HQ h0 h1 h2
    obtain ⟨t_0, t_1, t_2, t_f⟩ := T4.out.three
    obtain ⟨fb_0, fb_1, fb_2, fb_3, fb_4, fb_f⟩ := Fb4.out.five
    go_wp2
    go_ret
    exact ⟨ret_int HR.out.symm, D4.out⟩
  have HQ2 := Lib.hid (HQ.out.trans (if_pos (by rw [h0, h1, h2]; rfl)))
  clear HQ h0 h1 h2
  obtain ⟨t_0, t_1, t_2, t_f⟩ := T4.out.three
  obtain ⟨fb_0, fb_1, fb_2, fb_3, fb_4, fb_f⟩ := Fb4.out.five
  go_wp2_with fail
  refine (s_FindFlow N R (y0, y1, y2, y3, y4) b m cb es _ HM.out hm hcb (HE.out.below D4.out)).mono ?_
  rintro e w5 ⟨rfl, b5⟩
  clear t_0 t_1 t_2 t_f fb_0 fb_1 fb_2 fb_3 fb_4 fb_f
  have zz5 := (b5).size
  have D5 := Lib.hid (Below.step D4.out b5 (by omega))
  have T5 := Lib.hid (T4.out.keep b5)
  have Fb5 := Lib.hid (Fb4.out.keep b5)
  clear D4 T4 Fb4
  clear b5
  obtain ⟨M, hM⟩ : ∃ M, findT (N, R, es) (y0, y1, y2, y3, y4) = M := ⟨_, rfl⟩
  rw [hM] at HQ2 ⊢
  clear hM
  by_cases hM0 : 0 ≤ M
  · skip
    go_wp2_with fail
    refine (s_HostState a n cap hs M _ HX.out hn (HP.out.below D5.out)).mono ?_
    rintro e w6 ⟨rfl, b6⟩
    have zz6 := (b6).size
    have D6 := Lib.hid (Below.step D5.out b6 (by omega))
    have T6 := Lib.hid (T5.out.keep b6)
    have Fb6 := Lib.hid (Fb5.out.keep b6)
    clear D5 T5 Fb5
    clear b6
    by_cases hS : stV hs M = 0
    · rw [hS]
      have HR := Lib.hid (HQ2.out.trans (if_neg (fun h => h.2 hS)))
      clear HQ2
      obtain ⟨fb_0, fb_1, fb_2, fb_3, fb_4, fb_f⟩ := Fb6.out.five
      go_wp2_with fail
      refine (s_FlowHash (y0, y1, y2, y3, y4) _).mono ?_
      rintro e w7 ⟨rfl, b7⟩
      clear fb_0 fb_1 fb_2 fb_3 fb_4 fb_f
      have zz7 := (b7).size
      have D7 := Lib.hid (Below.step D6.out b7 (by omega))
      have T7 := Lib.hid (T6.out.keep b7)
      have Fb7 := Lib.hid (Fb6.out.keep b7)
      clear D6 T6 Fb6
      clear b7
      go_wp2_with fail
      refine (s_RendezvousHost a n cap hs _ _ HX.out hn (HP.out.below D7.out)).mono ?_
      rintro e w8 ⟨rfl, b8⟩
      have zz8 := (b8).size
      have D8 := Lib.hid (Below.step D7.out b8 (by omega))
      have T8 := Lib.hid (T7.out.keep b8)
      have Fb8 := Lib.hid (Fb7.out.keep b8)
      clear D7 T7 Fb7
      clear b8
      go_wp2
      go_ret
      exact ⟨ret_int HR.out.symm, D8.out⟩
    · have HR := Lib.hid (HQ2.out.trans (if_pos ⟨hM0, hS⟩))
      clear HQ2
      generalize stV hs M = S at *
      go_wp2
      go_ret
      exact ⟨ret_int HR.out.symm, D6.out⟩
  · skip
    have HR := Lib.hid (HQ2.out.trans (if_neg (fun h => hM0 h.1)))
    clear HQ2
    obtain ⟨fb_0, fb_1, fb_2, fb_3, fb_4, fb_f⟩ := Fb5.out.five
    go_wp2_with fail
    refine (s_FlowHash (y0, y1, y2, y3, y4) _).mono ?_
    rintro e w6 ⟨rfl, b6⟩
    clear fb_0 fb_1 fb_2 fb_3 fb_4 fb_f
    have zz6 := (b6).size
    have D6 := Lib.hid (Below.step D5.out b6 (by omega))
    have T6 := Lib.hid (T5.out.keep b6)
    have Fb6 := Lib.hid (Fb5.out.keep b6)
    clear D5 T5 Fb5
    clear b6
    go_wp2_with fail
    refine (s_RendezvousHost a n cap hs _ _ HX.out hn (HP.out.below D6.out)).mono ?_
    rintro e w7 ⟨rfl, b7⟩
    have zz7 := (b7).size
    have D7 := Lib.hid (Below.step D6.out b7 (by omega))
    have T7 := Lib.hid (T6.out.keep b7)
    have Fb7 := Lib.hid (Fb6.out.keep b7)
    clear D6 T6 Fb6
    clear b7
    go_wp2
    go_ret
    exact ⟨ret_int HR.out.symm, D7.out⟩
end Go.Proofs.Ytdkdfehlmphikaa
