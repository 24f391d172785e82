/- TouchFlow of the reference. No condition but lists of at most 2^20 entries. -/
import Derived.Test.YtdkdfehlmphikaaTabI
import Derived.Test.YtdkdfehlmphikaaTabK
import Derived.Test.YtdkdfehlmphikaaTouC
namespace Go.Proofs.Ytdkdfehlmphikaa
open Go.RowKit
/-- Which entry leaves ahead of the flow's new one, or -1. -/
def atS (sz : Int) (es : List E7) (f : F5) : Int := if pOf es f < 0 ∧ (es.length : Int) = sz then 0 else pOf es f
theorem atS_cases {sz st : Int} {es : List E7} (f : F5) (h : tv sz st es = true) : (atS sz es f = -1 ∧ restT sz es f = es) ∨ ∃ k : Nat, atS sz es f = (k : Int) ∧ k < es.length ∧ restT sz es f = es.take k ++ es.drop (k + 1) := by
  rcases pOf_cases es f with ⟨hno, hp⟩ | ⟨hyes, k, hp, hk, hkf, _⟩
  · unfold atS restT
    rw [hp, if_neg hno]
    by_cases hf : (es.length : Int) = sz
    · right
      rw [if_pos ⟨by omega, hf⟩, if_pos hf]
      have := inB_true.1 (tv_parts h).1
      exact ⟨0, rfl, by omega, by simp⟩
    · left
      rw [if_neg (fun e => hf e.2), if_neg hf]
      exact ⟨rfl, rfl⟩
  · right
    unfold atS restT
    rw [hp, if_neg (fun e => by omega), if_pos hyes]
    exact ⟨k, rfl, hk, drop_at h hk hkf⟩
set_option maxRecDepth 100000 in
set_option maxHeartbeats 16000000 in
theorem s_TouchFlow (sz st : Int) (f : F5) (ho now : Int) (a : Option Addr) (n cap : Nat) (es : List E7) (w : World) (hxs : es.length = n) (hn : n ≤ 1048576) (hcap : n ≤ cap) (h : Ents w a es) (ha : a = none → n = 0 ∧ cap = 0) :
    Calls Try.prog 46 #[.agg #[.int .i64 sz, .int .i64 st, .slice a n cap], fvv f, .int .i64 ho, .int .i64 now] w (RetTB w (touchT (sz, st, es) f ho now)) := by
  obtain ⟨y0, y1, y2, y3, y4⟩ := f
  unfold fvv
  obtain ⟨W, hW, gW, sW, bt, bf, br⟩ := head3 w 30 37 30 [.int .i64 sz, .int .i64 st, .slice a n cap] [.int .i64 y0, .int .i64 y1, .int .i64 y2, .int .i64 y3, .int .i64 y4] [.int .i64 0, .int .i64 0, .slice none 0 0]
  have HX := Lib.hid hxs
  have HW := Lib.hid hW
  have HB1 := Lib.hid gW
  have hz1 : w.heap.size + 3 ≤ W.heap.size := by omega
  have HA := Lib.hid ha
  have HE1 := Lib.hid (h.below gW)
  have HT1 := Lib.hid bt
  have HF1 := Lib.hid bf
  have HR1 := Lib.hid br
  have HQ : Hid (touchB (sz, st, es) (y0, y1, y2, y3, y4) ho now = (tv sz st es && fv (y0, y1, y2, y3, y4) && inB ho 0 30 && fitB es now)) := Lib.hid rfl
  clear hxs hW gW sW ha h bt bf br
  go_enter Try.func46, Try.ntmps46
  go_wp2_with fail
  rw [← HW.out]
  (refine (s_TableValid sz st a n cap es _ HX.out hn hcap HE1.out).mono ?_)
  rintro e w2 ⟨rfl, b2⟩
  have HB2 := Lib.hid (Below.step HB1.out b2 (by omega))
  have hz2 : w.heap.size + 3 ≤ w2.heap.size := by have := b2.size; omega
  have HT2 := Lib.hid (HT1.out.keep b2)
  have HF2 := Lib.hid (HF1.out.keep b2)
  have HR2 := Lib.hid (HR1.out.keep b2)
  have HE2 := Lib.hid (HE1.out.below b2)
  clear b2 HB1 HT1 HF1 HR1 HE1 hz1
  obtain ⟨t0, t1, t2, ft⟩ := HT2.out.three
  obtain ⟨r0, r1, r2, fr⟩ := HR2.out.three
  obtain ⟨f0, f1, f2, f3, f4, ff⟩ := HF2.out.five
  cases h1 : tv sz st es
  · have HZ := Lib.hid (touch_zero (HQ.out.trans (by simp [h1])))
    clear HQ
    go_wp2
    refine bodyPost_ret (v := .tuple #[.agg #[.int .i64 0, .int .i64 0, .slice none 0 0], .bool false]) (by simp [results, Try.results46, go_sem, r0, r1, r2]) rfl ?_
    rw [HZ.out]
    refine retZeroB w _ ?_
    have := HB2.out
    go_grown
  have HI1 := Lib.hid h1
  rw [h1, Bool.true_and] at HQ
  clear h1
  go_wp2_with fail
  (refine (s_FlowValid (y0, y1, y2, y3, y4) _).mono ?_)
  rintro e w3 ⟨rfl, b3⟩
  have HB3 := Lib.hid (Below.step HB2.out b3 (by omega))
  have hz3 : w.heap.size + 3 ≤ w3.heap.size := by have := b3.size; omega
  have HT3 := Lib.hid (HT2.out.keep b3)
  have HF3 := Lib.hid (HF2.out.keep b3)
  have HR3 := Lib.hid (HR2.out.keep b3)
  have HE3 := Lib.hid (HE2.out.below b3)
  clear b3 HB2 HT2 HF2 HR2 HE2 hz2 t0 t1 t2 ft r0 r1 r2 fr f0 f1 f2 f3 f4 ff
  obtain ⟨t0, t1, t2, ft⟩ := HT3.out.three
  obtain ⟨r0, r1, r2, fr⟩ := HR3.out.three
  obtain ⟨f0, f1, f2, f3, f4, ff⟩ := HF3.out.five
  cases h2 : fv (y0, y1, y2, y3, y4)
  · have HZ := Lib.hid (touch_zero (HQ.out.trans (by simp [h2])))
    clear HQ
    go_wp2
    refine bodyPost_ret (v := .tuple #[.agg #[.int .i64 0, .int .i64 0, .slice none 0 0], .bool false]) (by simp [results, Try.results46, go_sem, r0, r1, r2]) rfl ?_
    rw [HZ.out]
    refine retZeroB w _ ?_
    have := HB3.out
    go_grown
  rw [h2, Bool.true_and] at HQ
  clear h2
  go_wp2_with fail
  refine (c_l1In _ _ _ _).mono ?_; rintro e w' ⟨rfl, rfl⟩
  cases h3 : inB ho 0 30
  · have HZ := Lib.hid (touch_zero (HQ.out.trans (by simp [h3])))
    clear HQ
    go_wp2
    refine bodyPost_ret (v := .tuple #[.agg #[.int .i64 0, .int .i64 0, .slice none 0 0], .bool false]) (by simp [results, Try.results46, go_sem, r0, r1, r2]) rfl ?_
    rw [HZ.out]
    refine retZeroB w _ ?_
    have := HB3.out
    go_grown
  rw [h3, Bool.true_and] at HQ
  clear h3
  go_wp2_with fail
  (refine (s_last sz st a n cap es _ HX.out hn HE3.out).mono ?_)
  rintro e w4 ⟨rfl, b4⟩
  have HB4 := Lib.hid (Below.step HB3.out b4 (by omega))
  have hz4 : w.heap.size + 3 ≤ w4.heap.size := by have := b4.size; omega
  have HT4 := Lib.hid (HT3.out.keep b4)
  have HF4 := Lib.hid (HF3.out.keep b4)
  have HR4 := Lib.hid (HR3.out.keep b4)
  have HE4 := Lib.hid (HE3.out.below b4)
  clear b4 HB3 HT3 HF3 HR3 HE3 hz3 t0 t1 t2 ft r0 r1 r2 fr f0 f1 f2 f3 f4 ff
  obtain ⟨t0, t1, t2, ft⟩ := HT4.out.three
  obtain ⟨r0, r1, r2, fr⟩ := HR4.out.three
  obtain ⟨f0, f1, f2, f3, f4, ff⟩ := HF4.out.five
  go_wp2_with fail
  refine (c_l1In _ _ _ _).mono ?_; rintro e w' ⟨rfl, rfl⟩
  rw [fit_in HI1.out]
  cases h4 : fitB es now
  · have HZ := Lib.hid (touch_zero (HQ.out.trans (by simp [h4])))
    clear HQ
    go_wp2
    refine bodyPost_ret (v := .tuple #[.agg #[.int .i64 0, .int .i64 0, .slice none 0 0], .bool false]) (by simp [results, Try.results46, go_sem, r0, r1, r2]) rfl ?_
    rw [HZ.out]
    refine retZeroB w _ ?_
    have := HB4.out
    go_grown
  have HQ2 : Hid (touchT (sz, st, es) (y0, y1, y2, y3, y4) ho now = ((sz, st, restT sz es (y0, y1, y2, y3, y4) ++ [((y0, y1, y2, y3, y4), ho, now)]), true)) := Lib.hid (by rw [touchT, if_pos (by rw [HQ.out]; exact h4)])
  clear HQ h4
  have hsz := inB_true.1 (tv_parts HI1.out).1
  have hnsz := (tv_parts HI1.out).2.2.1
  rw [HX.out] at hnsz
  go_wp2_with fail
  obtain ⟨w2, rfl⟩ : ∃ x, x = w4 := ⟨_, rfl⟩
  (with_reducible refine (s_copy sz st a n cap es _ HX.out hn HE4.out HA.out).mono ?_)
  rintro e w3 ⟨a3, c3, rfl, o3, g3, hs3⟩
  rw [HX.out] at o3 ⊢
  have hz3 := g3.size
  have HB3 := Lib.hid (Below.step HB4.out (grown_below g3) (by omega))
  have HO3 := Lib.hid o3
  have LT3 := Lib.hid o3.lt
  have HT3 := Lib.hid (HT4.out.keep (grown_below g3))
  have HF3 := Lib.hid (HF4.out.keep (grown_below g3))
  have HR3 := Lib.hid (HR4.out.keep (grown_below g3))
  have HE3 := Lib.hid (HE4.out.below (grown_below g3))
  clear o3 g3 t0 t1 t2 ft r0 r1 r2 fr f0 f1 f2 f3 f4 ff hs3 HT4 HF4 HR4 HE4 HB4
  obtain ⟨t0, t1, t2, ft⟩ := HT3.out.three
  obtain ⟨f0, f1, f2, f3, f4, ff⟩ := HF3.out.five
  have hl0 : w.heap.size < w3.heap.size := by omega
  have hl1 : w.heap.size + 1 < w3.heap.size := by omega
  go_wp2_with fail
  clear t0 t1 t2 ft f0 f1 f2 f3 f4 ff
  obtain ⟨W4, hW4, gW4, sW4, bn4⟩ := head1 w3 30 [.int .i64 sz, .int .i64 st, .slice a3 n c3]
  have HW4 := Lib.hid hW4
  have HS4 := Lib.hid sW4
  have HB4 := Lib.hid gW4
  have HNW := Lib.hid bn4
  clear hW4 sW4 gW4 bn4
  rw [← HW4.out]
  refine (c_place (y0, y1, y2, y3, y4) a n cap es _ HX.out hn (HE3.out.below HB4.out)).mono ?_
  rintro e wo ⟨rfl, hbo⟩
  have HN4 : Hid (Box wo w3.heap.size 30 [.int .i64 sz, .int .i64 st, .slice a3 n c3]) := Lib.hid (HNW.out.keep hbo)
  have HR4 := Lib.hid ((HR3.out.keep HB4.out).keep hbo)
  have HT4 := Lib.hid ((HT3.out.keep HB4.out).keep hbo)
  have HF4 := Lib.hid ((HF3.out.keep HB4.out).keep hbo)
  have HO4 : Hid (EntRow wo w2.heap.size a3 n c3 es) := Lib.hid (row_below (row_below HO3.out HB4.out) hbo)
  have HE4 := Lib.hid ((HE3.out.below HB4.out).below hbo)
  have HB3o : Hid (Below w3.heap.size w3 wo) := Lib.hid (Below.step HB4.out hbo (by rw [HS4.out]; omega))
  have HB0 := Lib.hid HB3.out
  have hzo := hbo.size
  rw [HS4.out] at hzo
  clear hbo HB3 HB4 HNW HT3 HF3 HR3 HE3 HO3 HW4 HS4
  have HAT : Hid (atS sz es (y0, y1, y2, y3, y4) = if pOf es (y0, y1, y2, y3, y4) < 0 ∧ (n : Int) = sz then 0 else pOf es (y0, y1, y2, y3, y4)) := Lib.hid (by rw [atS, HX.out])
  have HP := Lib.hid (show pOf es (y0, y1, y2, y3, y4) = -1 ∨ 0 ≤ pOf es (y0, y1, y2, y3, y4) from by
    rcases pOf_cases es (y0, y1, y2, y3, y4) with ⟨_, hp⟩ | ⟨_, k, hp, _⟩
    · exact .inl hp
    · right; rw [hp]; omega)
  generalize pOf es (y0, y1, y2, y3, y4) = pf at *
  obtain ⟨x0, x1, x2, fx⟩ := HT4.out.three
  obtain ⟨db, hdb⟩ : ∃ db, db = decide (pf < 0 ∧ (n : Int) = sz) := ⟨_, rfl⟩
  have HD := Lib.hid hdb
  clear hdb
  go_upto_region 5 with fail
  go_cut [48] (fun s wx => s = .bool db ∧ wx = wo)
  case first =>
    rcases HP.out with hp | hp
    · subst hp
      by_cases hf : (n : Int) = sz
      · have HZ := Lib.hid (HD.out.trans (decide_eq_true ⟨by omega, hf⟩))
        clear HP HAT HD
        go_wp2_with fail
        go_meet
        exact ⟨by rw [HZ.out], rfl⟩
      · have HZ := Lib.hid (HD.out.trans (decide_eq_false (fun e => hf e.2)))
        have hfb : ((n : Int) == sz) = false := beq_eq_false_iff_ne.2 hf
        clear HP HAT HD
        go_wp2_with fail
        go_meet
        exact ⟨by rw [HZ.out], rfl⟩
    · have hp' : ¬ pf < 0 := by omega
      have HZ := Lib.hid (HD.out.trans (decide_eq_false (fun e => hp' e.1)))
      clear HP HAT HD
      go_wp2_with fail
      go_meet
      exact ⟨by rw [HZ.out], rfl⟩
  case rest =>
   obtain ⟨rfl, rfl⟩ := hcut
   obtain ⟨wo, rfl⟩ : ∃ x, x = wc := ⟨_, rfl⟩
   clear HP
   go_upto_if 48 with fail
   go_cut [11] (fun s wx => s = .int .i64 (atS sz es (y0, y1, y2, y3, y4)) ∧ wx = wo)
   case first =>
    cases hdb : db
    · have HZ := Lib.hid (HAT.out.trans (if_neg (by have := HD.out; rw [hdb] at this; exact of_decide_eq_false this.symm)))
      subst hdb
      clear HAT HD
      go_wp2_with fail
      go_meet
      exact ⟨by rw [HZ.out], rfl⟩
    · have HZ := Lib.hid (HAT.out.trans (if_pos (by have := HD.out; rw [hdb] at this; exact of_decide_eq_true this.symm)))
      subst hdb
      clear HAT HD
      go_wp2_with fail
      go_meet
      exact ⟨by rw [HZ.out], rfl⟩
   case rest =>
    obtain ⟨rfl, rfl⟩ := hcut
    obtain ⟨wo, rfl⟩ : ∃ x, x = wc := ⟨_, rfl⟩
    clear HAT HD
    rcases atS_cases (y0, y1, y2, y3, y4) HI1.out with ⟨hat, hrs⟩ | ⟨k, hat, hk, hrs⟩
    · rw [hat]
      rw [hrs] at HQ2
      clear hat hrs
      clear x0 x1 x2 fx
      obtain ⟨w6, rfl⟩ : ∃ x, x = wo := ⟨_, rfl⟩
      have HB6 : Hid (Below w6.heap.size w6 w6) := Lib.hid (Below.refl _ _)
      have HN6 := Lib.hid HN4.out
      have HO6 := Lib.hid HO4.out
      have hz6 := HB6.out.size
      obtain ⟨ks, hks⟩ : ∃ ks, ks = es ++ [((y0, y1, y2, y3, y4), ho, now)] := ⟨_, rfl⟩
      rw [← hks] at HQ2
      have HKS := Lib.hid hks
      have HLEN : Hid (ks.length = (n + 1)) := Lib.hid (by rw [hks, List.length_append, HX.out]; rfl)
      clear hks
      obtain ⟨f0, f1, f2, f3, f4, ff⟩ := (HF4.out.keep HB6.out).five
      have hlf : w.heap.size + 1 < w6.heap.size := by omega
      have hnf : ¬ w.heap.size + 1 = w3.heap.size := by omega
      have hnf2 : ¬ w3.heap.size = w.heap.size + 1 := by omega
      have hl36 : w3.heap.size < w6.heap.size := by omega
      obtain ⟨m0, m1, m2, mf⟩ := HN6.out.three
      obtain ⟨W9, hW9⟩ : ∃ W9, W9 = w6.alloc (.cells #[.int .i64 y0, .int .i64 y1, .int .i64 y2, .int .i64 y3, .int .i64 y4, .int .i64 ho, .int .i64 now] 69) := ⟨_, rfl⟩
      have HS9 : Hid (W9.heap.size = w6.heap.size + 1) := Lib.hid (by rw [hW9]; simp)
      have HN9 : Hid (Box W9 w3.heap.size 30 [.int .i64 sz, .int .i64 st, .slice a3 n c3]) := Lib.hid (by rw [hW9]; exact HN6.out.alloc _)
      have HR9 : Hid (Box W9 (w.heap.size + 2) 30 [.int .i64 0, .int .i64 0, .slice none 0 0]) := Lib.hid (by rw [hW9]; exact (HR4.out.keep HB6.out).alloc _)
      have HB9 : Hid (Below w3.heap.size w3 W9) := Lib.hid (by rw [hW9]; exact (Below.step HB3o.out HB6.out (by omega)).alloc (by omega) _)
      have HO9 : Hid (EntRow W9 w2.heap.size a3 n c3 es) := Lib.hid (by rw [hW9]; exact row_below HO6.out ((Below.refl _ _).alloc (Nat.le_refl _) _))
      have BV9 : Hid (Box W9 w6.heap.size 69 [.int .i64 y0, .int .i64 y1, .int .i64 y2, .int .i64 y3, .int .i64 y4, .int .i64 ho, .int .i64 now]) := Lib.hid (by rw [hW9]; exact Box.new2 _ _ _ _ (by simp))
      have HW9 := Lib.hid hW9
      clear hW9
      go_wp2_with (at_builtin; rw [← HW9.out]; refine wpl_app _ rfl elemEntry (.tmp 65) (.tmp 70) rfl w2.heap.size (.slice a3 n c3) n _ rfl HO9.out ⟨w6.heap.size, 0, none⟩ 1 1 [.int .i64 y0, .int .i64 y1, .int .i64 y2, .int .i64 y3, .int .i64 y4, .int .i64 ho, .int .i64 now] rfl rfl (news_of BV9.out) (one7 _ _ _ _ _ _ _) (by decide) (by omega) (by rw [HS9.out]; omega) (n + 1) (by omega) (eCells ks) (by rw [HKS.out]; exact eCells_app _ [((y0, y1, y2, y3, y4), ho, now)]) ?_)
      intro g10 c10 w10 o10 g10' hat hlt10
      have HO10 := Lib.hid o10
      have hz10 := g10'.size
      rw [HS9.out] at hz10
      have hlt9 := HO9.out.lt
      have hbz : w.heap.size ≤ w2.heap.size := by omega
      have HN10 := Lib.hid (HN9.out.kept g10' (fun e => row_ne HO9.out HN9.out (by decide) e))
      have HR10 := Lib.hid (HR9.out.kept g10' (fun e => row_ne HO9.out HR9.out (by decide) e))
      have HB10 : Hid (Below w.heap.size w w10) := Lib.hid ((HB0.out.trans (HB9.out.mono (by omega))).grown g10' (by rw [HS9.out]; omega) (fun q hq => by have := hlt9 q hq; omega))
      clear o10 g10' hat f0 f1 f2 f3 f4 ff HO9 HW9 HN9 HR9 HB9 BV9 hlf hnf hnf2
      obtain ⟨n0, n1, n2, fn⟩ := HN10.out.three
      obtain ⟨r0, r1, r2, fr⟩ := HR10.out.three
      have hlr : w.heap.size + 2 < w10.heap.size := by omega
      have hnr : ¬ w.heap.size + 2 = w3.heap.size := by omega
      have hnr2 : ¬ w3.heap.size = w.heap.size + 2 := by omega
      go_wp2
      refine bodyPost_ret (v := .tuple #[.agg #[.int .i64 sz, .int .i64 st, .slice (some ⟨g10, 0, none⟩) (n + 1) c10], .bool true]) (by simp [results, Try.results46, go_sem, r0, r1, r2]) rfl ?_
      rw [HQ2.out]
      unfold RetTB
      simp only [HLEN.out]
      have hne1 : (Value.slice (some ⟨g10, 0, none⟩) (n + 1) c10).ownBlock ≠ some (w.heap.size + 2) := row_ne HO10.out HR10.out (by decide)
      have hne2 : (Value.slice (some ⟨g10, 0, none⟩) (n + 1) c10).ownBlock ≠ some w3.heap.size := row_ne HO10.out HN10.out (by decide)
      have hb10 := HB10.out
      refine ⟨_, c10, rfl, row_wider (row_set (row_set (row_set (row_set HO10.out _ _ hne2) _ _ hne1) _ _ hne1) _ _ hne1) (by omega), below_grown ?_⟩
      go_grown
    · rw [hat]
      rw [hrs] at HQ2
      clear hat hrs
      have hk' : k < n := by rw [← HX.out]; exact hk
      clear hk
      obtain ⟨b, off, rfl, hb, _⟩ := HE4.out.at HX.out hk'
      have HAP : Hid (eCells (es.take k) ++ eCells (es.drop (k + 1)) = eCells (es.take k ++ es.drop (k + 1))) := Lib.hid (eCells_app _ _)
      have HLT := Lib.hid (show (eCells (es.take k)).length = k * 7 by rw [eCells_len, List.length_take, HX.out]; congr 1; omega)
      have HLD := Lib.hid (show (eCells (es.drop (k + 1))).length = (n - (k + 1)) * 7 by rw [eCells_len, List.length_drop, HX.out])
      have VT := Lib.hid (Ints.vals (HE4.out.take k))
      have VD := Lib.hid (Ints.vals (HE4.out.drop (k + 1)))
      have hkc : k ≤ cap := by omega
      have hkc1 : k + 1 ≤ cap := by omega
      have hs1 : (0 : Int) ≤ (k : Int) + 1 := by omega
      have hs2 : (k : Int) + 1 ≤ (n : Int) := by omega
      have hs3 : ((k : Int) + 1).toNat = k + 1 := by omega
      have hs4 : (k : Int) + 1 ≤ (cap : Int) := by omega
      have hs5 : (k : Int) ≤ (cap : Int) := by omega
      have hi1 : IntKind.i64.wrap ((k : Int) + 1) = (k : Int) + 1 := IntWalk.i64_in _ (by omega)
      have hl2 : w.heap.size < wo.heap.size := by omega
      have hl3 : w3.heap.size < wo.heap.size := HN4.out.lt
      have H1 : Hid ((wo.alloc (.cells #[] 69)).drew.ownsRow wo.heap.size 69 7 (.slice (some ⟨wo.heap.size, 0, none⟩) 0 0) 0 []) := Lib.hid (row_emp wo _ _ _ rfl (Nat.le_refl _)).drew
      have A1 : Hid (Below wo.heap.size wo (wo.alloc (.cells #[] 69)).drew) := Lib.hid ((Below.refl _ _).alloc (Nat.le_refl _) _).drew
      clear x0 x1 fx
      by_cases hkn : cap = k + 1
      · obtain rfl : n = k + 1 := by omega
        subst hkn
        have hs6 : (k : Int) ≤ (k : Int) + 1 := by omega
        have VD2 : Hid (Vals wo (some ⟨b, off, none⟩) (eCells (es.drop (k + 1)))) := Lib.hid (by
          have : es.drop (k + 1) = [] := List.drop_eq_nil_iff.2 (by rw [HX.out]; omega)
          rw [this]; exact .inl rfl)
        go_wp2_with fail
        have HL0 := Lib.hid (show (eCells (es.drop (k + 1))).length = 0 * 7 by rw [HLD.out]; omega)
        go_region_held3 (fun w' => w'.cell? ⟨w.heap.size, 2, none⟩ = some (.slice (some ⟨b, off, none⟩) (k + 1) (k + 1))) (first | (with_reducible exact keepD0 x2) | (with_reducible exact keepD1 x2 _) | (with_reducible exact kk5) | (with_reducible exact kk6) | (with_reducible exact keepS1 kk6 (by omega)) | (trace "KEEP"; trace_state; fail))
          (first
            | (refine step_appA _ rfl elemEntry (.tmp 51) (.tmp 55) rfl wo.heap.size (.slice (some ⟨wo.heap.size, 0, none⟩) 0 0) 0 [] rfl H1.out (some ⟨b, off, none⟩) k (k + 1) (eCells (es.take k)) rfl (Vals.below VT.out A1.out) HLT.out (ints_one _) (fun h => by cases h) (by omega) (by simp) k (Nat.zero_add k) (eCells (es.take k)) rfl ?_
               intro a5 c5 w5 hown5 hgrow5 hat5
               have HO5 := Lib.hid hown5
               have HB5 : Hid (Below wo.heap.size wo w5) := Lib.hid (A1.out.grown hgrow5 (by simp) (by simp [Value.ownBlock]))
               have HM5 : Hid (wo.heap.size + 1 ≤ w5.heap.size) := Lib.hid (by have := hgrow5.size; simpa using this)
               have kk5 : w5.cell? ⟨w.heap.size, 2, none⟩ = some (.slice (some ⟨b, off, none⟩) (k + 1) (k + 1)) := hgrow5.cell (keep x2 _) (by simp [Value.ownBlock]; omega))
            | (refine step_appA _ rfl elemEntry (.tmp 56) (.tmp 61) rfl wo.heap.size (.slice a5 k c5) k (eCells (es.take k)) rfl HO5.out (some ⟨b, off, none⟩) 0 0 (eCells (es.drop (k + 1))) rfl (Vals.below VD2.out HB5.out) HL0.out (ints_one _) (fun h => by cases h) (by omega) HB5.out.size k (by omega) (eCells (es.take k ++ es.drop (k + 1))) HAP.out ?_
               intro a6 c6 w6 hown6 hgrow6 hat6
               have HO6 := Lib.hid hown6
               have HB6 : Hid (Below wo.heap.size wo w6) := Lib.hid (HB5.out.grown hgrow6 HB5.out.size (fun g hg => (HO5.out.lt g hg).1))
               have HN6 : Hid (Box w6 w3.heap.size 30 [.int .i64 sz, .int .i64 st, .slice a3 (k + 1) c3]) := Lib.hid (HN4.out.keep HB6.out)
               obtain ⟨m0, m1, m2, mf⟩ := HN6.out.three
               have kk6 : w6.cell? ⟨w.heap.size, 2, none⟩ = some (.slice (some ⟨b, off, none⟩) (k + 1) (k + 1)) := (HB6.out.cell (p := ⟨w.heap.size, 2, none⟩) (by show w.heap.size < _; omega)).trans x2))
        have hz6 := HB6.out.size
        obtain ⟨ks, hks⟩ : ∃ ks, ks = (es.take k ++ es.drop (k + 1)) ++ [((y0, y1, y2, y3, y4), ho, now)] := ⟨_, rfl⟩
        rw [← hks] at HQ2
        have HKS := Lib.hid hks
        have HLEN : Hid (ks.length = (k + 1)) := Lib.hid (by rw [hks, List.length_append, List.length_append, List.length_take, List.length_drop, HX.out]; simp only [List.length_cons, List.length_nil]; omega)
        clear hks
        obtain ⟨f0, f1, f2, f3, f4, ff⟩ := (HF4.out.keep HB6.out).five
        have hlf : w.heap.size + 1 < w6.heap.size := by omega
        have hnf : ¬ w.heap.size + 1 = w3.heap.size := by omega
        have hnf2 : ¬ w3.heap.size = w.heap.size + 1 := by omega
        have hl36 : w3.heap.size < w6.heap.size := by omega
        obtain ⟨W9, hW9⟩ : ∃ W9, W9 = (w6.setCell ⟨w3.heap.size, 2, none⟩ (.slice a6 k c6)).alloc (.cells #[.int .i64 y0, .int .i64 y1, .int .i64 y2, .int .i64 y3, .int .i64 y4, .int .i64 ho, .int .i64 now] 69) := ⟨_, rfl⟩
        have HS9 : Hid (W9.heap.size = w6.heap.size + 1) := Lib.hid (by rw [hW9]; simp)
        have HN9 : Hid (Box W9 w3.heap.size 30 [.int .i64 sz, .int .i64 st, .slice a6 k c6]) := Lib.hid (by rw [hW9]; exact (HN6.out.set 2 _).alloc _)
        have HR9 : Hid (Box W9 (w.heap.size + 2) 30 [.int .i64 0, .int .i64 0, .slice none 0 0]) := Lib.hid (by rw [hW9]; exact ((HR4.out.keep HB6.out).other (by simp; omega) _).alloc _)
        have HB9 : Hid (Below w3.heap.size w3 W9) := Lib.hid (by rw [hW9]; exact ((Below.step HB3o.out HB6.out (by omega)).setCell (by simp) _).alloc (by simp; omega) _)
        have HO9 : Hid (EntRow W9 wo.heap.size a6 k c6 (es.take k ++ es.drop (k + 1))) := Lib.hid (by rw [hW9]; exact row_below (row_set HO6.out _ _ (row_ne HO6.out HN6.out (by decide))) ((Below.refl _ _).alloc (Nat.le_refl _) _))
        have BV9 : Hid (Box W9 w6.heap.size 69 [.int .i64 y0, .int .i64 y1, .int .i64 y2, .int .i64 y3, .int .i64 y4, .int .i64 ho, .int .i64 now]) := Lib.hid (by rw [hW9]; exact Box.new2 _ _ _ _ (by simp))
        have HW9 := Lib.hid hW9
        clear hW9
        go_wp2_with (at_builtin; rw [← HW9.out]; refine wpl_app _ rfl elemEntry (.tmp 65) (.tmp 70) rfl wo.heap.size (.slice a6 k c6) k _ rfl HO9.out ⟨w6.heap.size, 0, none⟩ 1 1 [.int .i64 y0, .int .i64 y1, .int .i64 y2, .int .i64 y3, .int .i64 y4, .int .i64 ho, .int .i64 now] rfl rfl (news_of BV9.out) (one7 _ _ _ _ _ _ _) (by decide) (by omega) (by rw [HS9.out]; omega) (k + 1) (by omega) (eCells ks) (by rw [HKS.out]; exact eCells_app _ [((y0, y1, y2, y3, y4), ho, now)]) ?_)
        intro g10 c10 w10 o10 g10' hat hlt10
        have HO10 := Lib.hid o10
        have hz10 := g10'.size
        rw [HS9.out] at hz10
        have hlt9 := HO9.out.lt
        have hbz : w.heap.size ≤ wo.heap.size := by omega
        have HN10 := Lib.hid (HN9.out.kept g10' (fun e => row_ne HO9.out HN9.out (by decide) e))
        have HR10 := Lib.hid (HR9.out.kept g10' (fun e => row_ne HO9.out HR9.out (by decide) e))
        have HB10 : Hid (Below w.heap.size w w10) := Lib.hid ((HB0.out.trans (HB9.out.mono (by omega))).grown g10' (by rw [HS9.out]; omega) (fun q hq => by have := hlt9 q hq; omega))
        clear o10 g10' hat f0 f1 f2 f3 f4 ff HO9 HW9 HN9 HR9 HB9 BV9 hlf hnf hnf2
        obtain ⟨n0, n1, n2, fn⟩ := HN10.out.three
        obtain ⟨r0, r1, r2, fr⟩ := HR10.out.three
        have hlr : w.heap.size + 2 < w10.heap.size := by omega
        have hnr : ¬ w.heap.size + 2 = w3.heap.size := by omega
        have hnr2 : ¬ w3.heap.size = w.heap.size + 2 := by omega
        go_wp2
        refine bodyPost_ret (v := .tuple #[.agg #[.int .i64 sz, .int .i64 st, .slice (some ⟨g10, 0, none⟩) (k + 1) c10], .bool true]) (by simp [results, Try.results46, go_sem, r0, r1, r2]) rfl ?_
        rw [HQ2.out]
        unfold RetTB
        simp only [HLEN.out]
        have hne1 : (Value.slice (some ⟨g10, 0, none⟩) (k + 1) c10).ownBlock ≠ some (w.heap.size + 2) := row_ne HO10.out HR10.out (by decide)
        have hne2 : (Value.slice (some ⟨g10, 0, none⟩) (k + 1) c10).ownBlock ≠ some w3.heap.size := row_ne HO10.out HN10.out (by decide)
        have hb10 := HB10.out
        refine ⟨_, c10, rfl, row_wider (row_set (row_set (row_set (row_set HO10.out _ _ hne2) _ _ hne1) _ _ hne1) _ _ hne1) (by omega), below_grown ?_⟩
        go_grown
      · go_wp2_with fail
        go_region_held3 (fun w' => w'.cell? ⟨w.heap.size, 2, none⟩ = some (.slice (some ⟨b, off, none⟩) n cap)) (first | (with_reducible exact keepD0 x2) | (with_reducible exact keepD1 x2 _) | (with_reducible exact kk5) | (with_reducible exact kk6) | (with_reducible exact keepS1 kk6 (by omega)) | (trace "KEEP"; trace_state; fail))
          (first
            | (refine step_appA _ rfl elemEntry (.tmp 51) (.tmp 55) rfl wo.heap.size (.slice (some ⟨wo.heap.size, 0, none⟩) 0 0) 0 [] rfl H1.out (some ⟨b, off, none⟩) k cap (eCells (es.take k)) rfl (Vals.below VT.out A1.out) HLT.out (ints_one _) (fun h => by cases h) (by omega) (by simp) k (Nat.zero_add k) (eCells (es.take k)) rfl ?_
               intro a5 c5 w5 hown5 hgrow5 hat5
               have HO5 := Lib.hid hown5
               have HB5 : Hid (Below wo.heap.size wo w5) := Lib.hid (A1.out.grown hgrow5 (by simp) (by simp [Value.ownBlock]))
               have HM5 : Hid (wo.heap.size + 1 ≤ w5.heap.size) := Lib.hid (by have := hgrow5.size; simpa using this)
               have kk5 : w5.cell? ⟨w.heap.size, 2, none⟩ = some (.slice (some ⟨b, off, none⟩) n cap) := hgrow5.cell (keep x2 _) (by simp [Value.ownBlock]; omega))
            | (refine step_appA _ rfl elemEntry (.tmp 56) (.tmp 61) rfl wo.heap.size (.slice a5 k c5) k (eCells (es.take k)) rfl HO5.out (some ⟨b, off + (k + 1) * 7, none⟩) (n - (k + 1)) (cap - (k + 1)) (eCells (es.drop (k + 1))) rfl (Vals.below VD.out HB5.out) HLD.out (ints_one _) (fun h => by cases h) (by omega) HB5.out.size (n - 1) (by omega) (eCells (es.take k ++ es.drop (k + 1))) HAP.out ?_
               intro a6 c6 w6 hown6 hgrow6 hat6
               have HO6 := Lib.hid hown6
               have HB6 : Hid (Below wo.heap.size wo w6) := Lib.hid (HB5.out.grown hgrow6 HB5.out.size (fun g hg => (HO5.out.lt g hg).1))
               have HN6 : Hid (Box w6 w3.heap.size 30 [.int .i64 sz, .int .i64 st, .slice a3 n c3]) := Lib.hid (HN4.out.keep HB6.out)
               obtain ⟨m0, m1, m2, mf⟩ := HN6.out.three
               have kk6 : w6.cell? ⟨w.heap.size, 2, none⟩ = some (.slice (some ⟨b, off, none⟩) n cap) := (HB6.out.cell (p := ⟨w.heap.size, 2, none⟩) (by show w.heap.size < _; omega)).trans x2))
        have hz6 := HB6.out.size
        obtain ⟨ks, hks⟩ : ∃ ks, ks = (es.take k ++ es.drop (k + 1)) ++ [((y0, y1, y2, y3, y4), ho, now)] := ⟨_, rfl⟩
        rw [← hks] at HQ2
        have HKS := Lib.hid hks
        have HLEN : Hid (ks.length = n) := Lib.hid (by rw [hks, List.length_append, List.length_append, List.length_take, List.length_drop, HX.out]; simp only [List.length_cons, List.length_nil]; omega)
        clear hks
        obtain ⟨f0, f1, f2, f3, f4, ff⟩ := (HF4.out.keep HB6.out).five
        have hlf : w.heap.size + 1 < w6.heap.size := by omega
        have hnf : ¬ w.heap.size + 1 = w3.heap.size := by omega
        have hnf2 : ¬ w3.heap.size = w.heap.size + 1 := by omega
        have hl36 : w3.heap.size < w6.heap.size := by omega
        obtain ⟨W9, hW9⟩ : ∃ W9, W9 = (w6.setCell ⟨w3.heap.size, 2, none⟩ (.slice a6 (n - 1) c6)).alloc (.cells #[.int .i64 y0, .int .i64 y1, .int .i64 y2, .int .i64 y3, .int .i64 y4, .int .i64 ho, .int .i64 now] 69) := ⟨_, rfl⟩
        have HS9 : Hid (W9.heap.size = w6.heap.size + 1) := Lib.hid (by rw [hW9]; simp)
        have HN9 : Hid (Box W9 w3.heap.size 30 [.int .i64 sz, .int .i64 st, .slice a6 (n - 1) c6]) := Lib.hid (by rw [hW9]; exact (HN6.out.set 2 _).alloc _)
        have HR9 : Hid (Box W9 (w.heap.size + 2) 30 [.int .i64 0, .int .i64 0, .slice none 0 0]) := Lib.hid (by rw [hW9]; exact ((HR4.out.keep HB6.out).other (by simp; omega) _).alloc _)
        have HB9 : Hid (Below w3.heap.size w3 W9) := Lib.hid (by rw [hW9]; exact ((Below.step HB3o.out HB6.out (by omega)).setCell (by simp) _).alloc (by simp; omega) _)
        have HO9 : Hid (EntRow W9 wo.heap.size a6 (n - 1) c6 (es.take k ++ es.drop (k + 1))) := Lib.hid (by rw [hW9]; exact row_below (row_set HO6.out _ _ (row_ne HO6.out HN6.out (by decide))) ((Below.refl _ _).alloc (Nat.le_refl _) _))
        have BV9 : Hid (Box W9 w6.heap.size 69 [.int .i64 y0, .int .i64 y1, .int .i64 y2, .int .i64 y3, .int .i64 y4, .int .i64 ho, .int .i64 now]) := Lib.hid (by rw [hW9]; exact Box.new2 _ _ _ _ (by simp))
        have HW9 := Lib.hid hW9
        clear hW9
        go_wp2_with (at_builtin; rw [← HW9.out]; refine wpl_app _ rfl elemEntry (.tmp 65) (.tmp 70) rfl wo.heap.size (.slice a6 (n - 1) c6) (n - 1) _ rfl HO9.out ⟨w6.heap.size, 0, none⟩ 1 1 [.int .i64 y0, .int .i64 y1, .int .i64 y2, .int .i64 y3, .int .i64 y4, .int .i64 ho, .int .i64 now] rfl rfl (news_of BV9.out) (one7 _ _ _ _ _ _ _) (by decide) (by omega) (by rw [HS9.out]; omega) n (by omega) (eCells ks) (by rw [HKS.out]; exact eCells_app _ [((y0, y1, y2, y3, y4), ho, now)]) ?_)
        intro g10 c10 w10 o10 g10' hat hlt10
        have HO10 := Lib.hid o10
        have hz10 := g10'.size
        rw [HS9.out] at hz10
        have hlt9 := HO9.out.lt
        have hbz : w.heap.size ≤ wo.heap.size := by omega
        have HN10 := Lib.hid (HN9.out.kept g10' (fun e => row_ne HO9.out HN9.out (by decide) e))
        have HR10 := Lib.hid (HR9.out.kept g10' (fun e => row_ne HO9.out HR9.out (by decide) e))
        have HB10 : Hid (Below w.heap.size w w10) := Lib.hid ((HB0.out.trans (HB9.out.mono (by omega))).grown g10' (by rw [HS9.out]; omega) (fun q hq => by have := hlt9 q hq; omega))
        clear o10 g10' hat f0 f1 f2 f3 f4 ff HO9 HW9 HN9 HR9 HB9 BV9 hlf hnf hnf2
        obtain ⟨n0, n1, n2, fn⟩ := HN10.out.three
        obtain ⟨r0, r1, r2, fr⟩ := HR10.out.three
        have hlr : w.heap.size + 2 < w10.heap.size := by omega
        have hnr : ¬ w.heap.size + 2 = w3.heap.size := by omega
        have hnr2 : ¬ w3.heap.size = w.heap.size + 2 := by omega
        go_wp2
        refine bodyPost_ret (v := .tuple #[.agg #[.int .i64 sz, .int .i64 st, .slice (some ⟨g10, 0, none⟩) n c10], .bool true]) (by simp [results, Try.results46, go_sem, r0, r1, r2]) rfl ?_
        rw [HQ2.out]
        unfold RetTB
        simp only [HLEN.out]
        have hne1 : (Value.slice (some ⟨g10, 0, none⟩) n c10).ownBlock ≠ some (w.heap.size + 2) := row_ne HO10.out HR10.out (by decide)
        have hne2 : (Value.slice (some ⟨g10, 0, none⟩) n c10).ownBlock ≠ some w3.heap.size := row_ne HO10.out HN10.out (by decide)
        have hb10 := HB10.out
        refine ⟨_, c10, rfl, row_wider (row_set (row_set (row_set (row_set HO10.out _ _ hne2) _ _ hne1) _ _ hne1) _ _ hne1) (by omega), below_grown ?_⟩
        go_grown
end Go.Proofs.Ytdkdfehlmphikaa
