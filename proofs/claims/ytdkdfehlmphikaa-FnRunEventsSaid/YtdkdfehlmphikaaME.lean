/- Texts laid together (TouS, Pur, Fnd). No condition but what each theorem says. -/
import Derived.Test.YtdkdfehlmphikaaMC
import Derived.Test.YtdkdfehlmphikaaMD
/- TouchFlow of the reference. No condition but lists of at most 2^20 entries. -/
namespace Go.Proofs.Ytdkdfehlmphikaa
open Go.RowKit
/-- Which entry leaves ahead of the flow's new one, or -1. -/
def atS (sz : Int) (es : List E7) (f : F5) : Int := if pOf es f < 0 ∧ (es.length : Int) = sz then 0 else pOf es f
theorem atS_cases {sz st : Int} {es : List E7} (f : F5) (h : tv sz st es = true) : (atS sz es f = -1 ∧ restT sz es f = es) ∨ ∃ k : Nat, atS sz es f = (k : Int) ∧ k < es.length ∧ restT sz es f = es.take k ++ es.drop (k + 1) := by
  rcases pOf_cases es f with ⟨hno, hp⟩ | ⟨hyes, k, hp, hk, hkf, _⟩
  · unfold atS restT
    rw [hp, if_neg hno]
    by_cases hf : (es.length : Int) = sz
    · right
      rw [if_pos ⟨by omega, hf⟩, if_pos hf]
      have := inB_true.1 (tv_parts h).1
      exact ⟨0, rfl, by omega, by simp⟩
    · left
      rw [if_neg (fun e => hf e.2), if_neg hf]
      exact ⟨rfl, rfl⟩
  · right
    unfold atS restT
    rw [hp, if_neg (fun e => by omega), if_pos hyes]
    exact ⟨k, rfl, hk, drop_at h hk hkf⟩
set_option maxRecDepth 100000 in
set_option maxHeartbeats 16000000 in
theorem s_TouchFlow (sz st : Int) (f : F5) (ho now : Int) (a : Option Addr) (n cap : Nat) (es : List E7) (w : World) (hxs : es.length = n) (hn : n ≤ 1048576) (hcap : n ≤ cap) (h : Ents w a es) (ha : a = none → n = 0 ∧ cap = 0) :
    Calls Try.prog 46 #[.agg #[.int .i64 sz, .int .i64 st, .slice a n cap], fvv f, .int .i64 ho, .int .i64 now] w (RetTB w (touchT (sz, st, es) f ho now)) := by
  obtain ⟨y0, y1, y2, y3, y4⟩ := f
  unfold fvv
  obtain ⟨W, hW, gW, sW, bt, bf, br⟩ := head3 w 30 37 30 [.int .i64 sz, .int .i64 st, .slice a n cap] [.int .i64 y0, .int .i64 y1, .int .i64 y2, .int .i64 y3, .int .i64 y4] [.int .i64 0, .int .i64 0, .slice none 0 0]
  have HX := Lib.hid hxs
  have HW := Lib.hid hW
  have HB1 := Lib.hid gW
  have hz1 : w.heap.size + 3 ≤ W.heap.size := by omega
  have HA := Lib.hid ha
  have HE1 := Lib.hid (h.below gW)
  have HT1 := Lib.hid bt
  have HF1 := Lib.hid bf
  have HR1 := Lib.hid br
  have HQ : Hid (touchB (sz, st, es) (y0, y1, y2, y3, y4) ho now = (tv sz st es && fv (y0, y1, y2, y3, y4) && inB ho 0 30 && fitB es now)) := Lib.hid rfl
  clear hxs hW gW sW ha h bt bf br
  go_enter Try.func46, Try.ntmps46
  go_wp2_with fail
  rw [← HW.out]
  (refine (s_TableValid sz st a n cap es _ HX.out hn hcap HE1.out).mono ?_)
  rintro e w2 ⟨rfl, b2⟩
  have HB2 := Lib.hid (Below.step HB1.out b2 (by omega))
  have hz2 : w.heap.size + 3 ≤ w2.heap.size := by have := b2.size; omega
  have HT2 := Lib.hid (HT1.out.keep b2)
  have HF2 := Lib.hid (HF1.out.keep b2)
  have HR2 := Lib.hid (HR1.out.keep b2)
  have HE2 := Lib.hid (HE1.out.below b2)
  clear b2 HB1 HT1 HF1 HR1 HE1 hz1
  obtain ⟨t0, t1, t2, ft⟩ := HT2.out.three
  obtain ⟨r0, r1, r2, fr⟩ := HR2.out.three
  obtain ⟨f0, f1, f2, f3, f4, ff⟩ := HF2.out.five
  cases h1 : tv sz st es
  · have HZ := Lib.hid (touch_zero (HQ.out.trans (by simp [h1])))
    clear HQ
    go_wp2
    refine bodyPost_ret (v := .tuple #[.agg #[.int .i64 0, .int .i64 0, .slice none 0 0], .bool false]) (by simp [results, Try.results46, go_sem, r0, r1, r2]) rfl ?_
    rw [HZ.out]
    refine retZeroB w _ ?_
    have := HB2.out
    go_grown
  have HI1 := Lib.hid h1
  rw [h1, Bool.true_and] at HQ
  clear h1
  go_wp2_with fail
  (refine (s_FlowValid (y0, y1, y2, y3, y4) _).mono ?_)
  rintro e w3 ⟨rfl, b3⟩
  have HB3 := Lib.hid (Below.step HB2.out b3 (by omega))
  have hz3 : w.heap.size + 3 ≤ w3.heap.size := by have := b3.size; omega
  have HT3 := Lib.hid (HT2.out.keep b3)
  have HF3 := Lib.hid (HF2.out.keep b3)
  have HR3 := Lib.hid (HR2.out.keep b3)
  have HE3 := Lib.hid (HE2.out.below b3)
  clear b3 HB2 HT2 HF2 HR2 HE2 hz2 t0 t1 t2 ft r0 r1 r2 fr f0 f1 f2 f3 f4 ff
  obtain ⟨t0, t1, t2, ft⟩ := HT3.out.three
  obtain ⟨r0, r1, r2, fr⟩ := HR3.out.three
  obtain ⟨f0, f1, f2, f3, f4, ff⟩ := HF3.out.five
  cases h2 : fv (y0, y1, y2, y3, y4)
  · have HZ := Lib.hid (touch_zero (HQ.out.trans (by simp [h2])))
    clear HQ
    go_wp2
    refine bodyPost_ret (v := .tuple #[.agg #[.int .i64 0, .int .i64 0, .slice none 0 0], .bool false]) (by simp [results, Try.results46, go_sem, r0, r1, r2]) rfl ?_
    rw [HZ.out]
    refine retZeroB w _ ?_
    have := HB3.out
    go_grown
  rw [h2, Bool.true_and] at HQ
  clear h2
  go_wp2_with fail
  refine (c_l1In _ _ _ _).mono ?_; rintro e w' ⟨rfl, rfl⟩
  cases h3 : inB ho 0 30
  · have HZ := Lib.hid (touch_zero (HQ.out.trans (by simp [h3])))
    clear HQ
    go_wp2
    refine bodyPost_ret (v := .tuple #[.agg #[.int .i64 0, .int .i64 0, .slice none 0 0], .bool false]) (by simp [results, Try.results46, go_sem, r0, r1, r2]) rfl ?_
    rw [HZ.out]
    refine retZeroB w _ ?_
    have := HB3.out
    go_grown
  rw [h3, Bool.true_and] at HQ
  clear h3
  go_wp2_with fail
  (refine (s_last sz st a n cap es _ HX.out hn HE3.out).mono ?_)
  rintro e w4 ⟨rfl, b4⟩
  have HB4 := Lib.hid (Below.step HB3.out b4 (by omega))
  have hz4 : w.heap.size + 3 ≤ w4.heap.size := by have := b4.size; omega
  have HT4 := Lib.hid (HT3.out.keep b4)
  have HF4 := Lib.hid (HF3.out.keep b4)
  have HR4 := Lib.hid (HR3.out.keep b4)
  have HE4 := Lib.hid (HE3.out.below b4)
  clear b4 HB3 HT3 HF3 HR3 HE3 hz3 t0 t1 t2 ft r0 r1 r2 fr f0 f1 f2 f3 f4 ff
  obtain ⟨t0, t1, t2, ft⟩ := HT4.out.three
  obtain ⟨r0, r1, r2, fr⟩ := HR4.out.three
  obtain ⟨f0, f1, f2, f3, f4, ff⟩ := HF4.out.five
  go_wp2_with fail
  refine (c_l1In _ _ _ _).mono ?_; rintro e w' ⟨rfl, rfl⟩
  rw [fit_in HI1.out]
  cases h4 : fitB es now
  · have HZ := Lib.hid (touch_zero (HQ.out.trans (by simp [h4])))
    clear HQ
    go_wp2
    refine bodyPost_ret (v := .tuple #[.agg #[.int .i64 0, .int .i64 0, .slice none 0 0], .bool false]) (by simp [results, Try.results46, go_sem, r0, r1, r2]) rfl ?_
    rw [HZ.out]
    refine retZeroB w _ ?_
    have := HB4.out
    go_grown
  have HQ2 : Hid (touchT (sz, st, es) (y0, y1, y2, y3, y4) ho now = ((sz, st, restT sz es (y0, y1, y2, y3, y4) ++ [((y0, y1, y2, y3, y4), ho, now)]), true)) := Lib.hid (by rw [touchT, if_pos (by rw [HQ.out]; exact h4)])
  clear HQ h4
  have hsz := inB_true.1 (tv_parts HI1.out).1
  have hnsz := (tv_parts HI1.out).2.2.1
  rw [HX.out] at hnsz
  go_wp2_with fail
  obtain ⟨w2, rfl⟩ : ∃ x, x = w4 := ⟨_, rfl⟩
  (with_reducible refine (s_copy sz st a n cap es _ HX.out hn HE4.out HA.out).mono ?_)
  rintro e w3 ⟨a3, c3, rfl, o3, g3, hs3⟩
  rw [HX.out] at o3 ⊢
  have hz3 := g3.size
  have HB3 := Lib.hid (Below.step HB4.out (grown_below g3) (by omega))
  have HO3 := Lib.hid o3
  have LT3 := Lib.hid o3.lt
  have HT3 := Lib.hid (HT4.out.keep (grown_below g3))
  have HF3 := Lib.hid (HF4.out.keep (grown_below g3))
  have HR3 := Lib.hid (HR4.out.keep (grown_below g3))
  have HE3 := Lib.hid (HE4.out.below (grown_below g3))
  clear o3 g3 t0 t1 t2 ft r0 r1 r2 fr f0 f1 f2 f3 f4 ff hs3 HT4 HF4 HR4 HE4 HB4
  obtain ⟨t0, t1, t2, ft⟩ := HT3.out.three
  obtain ⟨f0, f1, f2, f3, f4, ff⟩ := HF3.out.five
  have hl0 : w.heap.size < w3.heap.size := by omega
  have hl1 : w.heap.size + 1 < w3.heap.size := by omega
  go_wp2_with fail
  clear t0 t1 t2 ft f0 f1 f2 f3 f4 ff
  obtain ⟨W4, hW4, gW4, sW4, bn4⟩ := head1 w3 30 [.int .i64 sz, .int .i64 st, .slice a3 n c3]
  have HW4 := Lib.hid hW4
  have HS4 := Lib.hid sW4
  have HB4 := Lib.hid gW4
  have HNW := Lib.hid bn4
  clear hW4 sW4 gW4 bn4
  rw [← HW4.out]
  refine (c_place (y0, y1, y2, y3, y4) a n cap es _ HX.out hn (HE3.out.below HB4.out)).mono ?_
  rintro e wo ⟨rfl, hbo⟩
  have HN4 : Hid (Box wo w3.heap.size 30 [.int .i64 sz, .int .i64 st, .slice a3 n c3]) := Lib.hid (HNW.out.keep hbo)
  have HR4 := Lib.hid ((HR3.out.keep HB4.out).keep hbo)
  have HT4 := Lib.hid ((HT3.out.keep HB4.out).keep hbo)
  have HF4 := Lib.hid ((HF3.out.keep HB4.out).keep hbo)
  have HO4 : Hid (EntRow wo w2.heap.size a3 n c3 es) := Lib.hid (row_below (row_below HO3.out HB4.out) hbo)
  have HE4 := Lib.hid ((HE3.out.below HB4.out).below hbo)
  have HB3o : Hid (Below w3.heap.size w3 wo) := Lib.hid (Below.step HB4.out hbo (by rw [HS4.out]; omega))
  have HB0 := Lib.hid HB3.out
  have hzo := hbo.size
  rw [HS4.out] at hzo
  clear hbo HB3 HB4 HNW HT3 HF3 HR3 HE3 HO3 HW4 HS4
  have HAT : Hid (atS sz es (y0, y1, y2, y3, y4) = if pOf es (y0, y1, y2, y3, y4) < 0 ∧ (n : Int) = sz then 0 else pOf es (y0, y1, y2, y3, y4)) := Lib.hid (by rw [atS, HX.out])
  have HP := Lib.hid (show pOf es (y0, y1, y2, y3, y4) = -1 ∨ 0 ≤ pOf es (y0, y1, y2, y3, y4) from by
    rcases pOf_cases es (y0, y1, y2, y3, y4) with ⟨_, hp⟩ | ⟨_, k, hp, _⟩
    · exact .inl hp
    · right; rw [hp]; omega)
  generalize pOf es (y0, y1, y2, y3, y4) = pf at *
  obtain ⟨x0, x1, x2, fx⟩ := HT4.out.three
  obtain ⟨db, hdb⟩ : ∃ db, db = decide (pf < 0 ∧ (n : Int) = sz) := ⟨_, rfl⟩
  have HD := Lib.hid hdb
  clear hdb
  go_upto_region 5 with fail
  go_cut [48] (fun s wx => s = .bool db ∧ wx = wo)
  case first =>
    rcases HP.out with hp | hp
    · subst hp
      by_cases hf : (n : Int) = sz
      · have HZ := Lib.hid (HD.out.trans (decide_eq_true ⟨by omega, hf⟩))
        clear HP HAT HD
        go_wp2_with fail
        go_meet
        exact ⟨by rw [HZ.out], rfl⟩
      · have HZ := Lib.hid (HD.out.trans (decide_eq_false (fun e => hf e.2)))
        have hfb : ((n : Int) == sz) = false := beq_eq_false_iff_ne.2 hf
        clear HP HAT HD
        go_wp2_with fail
        go_meet
        exact ⟨by rw [HZ.out], rfl⟩
    · have hp' : ¬ pf < 0 := by omega
      have HZ := Lib.hid (HD.out.trans (decide_eq_false (fun e => hp' e.1)))
      clear HP HAT HD
      go_wp2_with fail
      go_meet
      exact ⟨by rw [HZ.out], rfl⟩
  case rest =>
   obtain ⟨rfl, rfl⟩ := hcut
   obtain ⟨wo, rfl⟩ : ∃ x, x = wc := ⟨_, rfl⟩
   clear HP
   go_upto_if 48 with fail
   go_cut [11] (fun s wx => s = .int .i64 (atS sz es (y0, y1, y2, y3, y4)) ∧ wx = wo)
   case first =>
    cases hdb : db
    · have HZ := Lib.hid (HAT.out.trans (if_neg (by have := HD.out; rw [hdb] at this; exact of_decide_eq_false this.symm)))
      subst hdb
      clear HAT HD
      go_wp2_with fail
      go_meet
      exact ⟨by rw [HZ.out], rfl⟩
    · have HZ := Lib.hid (HAT.out.trans (if_pos (by have := HD.out; rw [hdb] at this; exact of_decide_eq_true this.symm)))
      subst hdb
      clear HAT HD
      go_wp2_with fail
      go_meet
      exact ⟨by rw [HZ.out], rfl⟩
   case rest =>
    obtain ⟨rfl, rfl⟩ := hcut
    obtain ⟨wo, rfl⟩ : ∃ x, x = wc := ⟨_, rfl⟩
    clear HAT HD
    rcases atS_cases (y0, y1, y2, y3, y4) HI1.out with ⟨hat, hrs⟩ | ⟨k, hat, hk, hrs⟩
    · rw [hat]
      rw [hrs] at HQ2
      clear hat hrs
      clear x0 x1 x2 fx
      obtain ⟨w6, rfl⟩ : ∃ x, x = wo := ⟨_, rfl⟩
      have HB6 : Hid (Below w6.heap.size w6 w6) := Lib.hid (Below.refl _ _)
      have HN6 := Lib.hid HN4.out
      have HO6 := Lib.hid HO4.out
      have hz6 := HB6.out.size
      obtain ⟨ks, hks⟩ : ∃ ks, ks = es ++ [((y0, y1, y2, y3, y4), ho, now)] := ⟨_, rfl⟩
      rw [← hks] at HQ2
      have HKS := Lib.hid hks
      have HLEN : Hid (ks.length = (n + 1)) := Lib.hid (by rw [hks, List.length_append, HX.out]; rfl)
      clear hks
      obtain ⟨f0, f1, f2, f3, f4, ff⟩ := (HF4.out.keep HB6.out).five
      have hlf : w.heap.size + 1 < w6.heap.size := by omega
      have hnf : ¬ w.heap.size + 1 = w3.heap.size := by omega
      have hnf2 : ¬ w3.heap.size = w.heap.size + 1 := by omega
      have hl36 : w3.heap.size < w6.heap.size := by omega
      obtain ⟨m0, m1, m2, mf⟩ := HN6.out.three
      obtain ⟨W9, hW9⟩ : ∃ W9, W9 = w6.alloc (.cells #[.int .i64 y0, .int .i64 y1, .int .i64 y2, .int .i64 y3, .int .i64 y4, .int .i64 ho, .int .i64 now] 69) := ⟨_, rfl⟩
      have HS9 : Hid (W9.heap.size = w6.heap.size + 1) := Lib.hid (by rw [hW9]; simp)
      have HN9 : Hid (Box W9 w3.heap.size 30 [.int .i64 sz, .int .i64 st, .slice a3 n c3]) := Lib.hid (by rw [hW9]; exact HN6.out.alloc _)
      have HR9 : Hid (Box W9 (w.heap.size + 2) 30 [.int .i64 0, .int .i64 0, .slice none 0 0]) := Lib.hid (by rw [hW9]; exact (HR4.out.keep HB6.out).alloc _)
      have HB9 : Hid (Below w3.heap.size w3 W9) := Lib.hid (by rw [hW9]; exact (Below.step HB3o.out HB6.out (by omega)).alloc (by omega) _)
      have HO9 : Hid (EntRow W9 w2.heap.size a3 n c3 es) := Lib.hid (by rw [hW9]; exact row_below HO6.out ((Below.refl _ _).alloc (Nat.le_refl _) _))
      have BV9 : Hid (Box W9 w6.heap.size 69 [.int .i64 y0, .int .i64 y1, .int .i64 y2, .int .i64 y3, .int .i64 y4, .int .i64 ho, .int .i64 now]) := Lib.hid (by rw [hW9]; exact Box.new2 _ _ _ _ (by simp))
      have HW9 := Lib.hid hW9
      clear hW9
      go_wp2_with (at_builtin; rw [← HW9.out]; refine wpl_app _ rfl elemEntry (.tmp 65) (.tmp 70) rfl w2.heap.size (.slice a3 n c3) n _ rfl HO9.out ⟨w6.heap.size, 0, none⟩ 1 1 [.int .i64 y0, .int .i64 y1, .int .i64 y2, .int .i64 y3, .int .i64 y4, .int .i64 ho, .int .i64 now] rfl rfl (news_of BV9.out) (one7 _ _ _ _ _ _ _) (by decide) (by omega) (by rw [HS9.out]; omega) (n + 1) (by omega) (eCells ks) (by rw [HKS.out]; exact eCells_app _ [((y0, y1, y2, y3, y4), ho, now)]) ?_)
      intro g10 c10 w10 o10 g10' hat hlt10
      have HO10 := Lib.hid o10
      have hz10 := g10'.size
      rw [HS9.out] at hz10
      have hlt9 := HO9.out.lt
      have hbz : w.heap.size ≤ w2.heap.size := by omega
      have HN10 := Lib.hid (HN9.out.kept g10' (fun e => row_ne HO9.out HN9.out (by decide) e))
      have HR10 := Lib.hid (HR9.out.kept g10' (fun e => row_ne HO9.out HR9.out (by decide) e))
      have HB10 : Hid (Below w.heap.size w w10) := Lib.hid ((HB0.out.trans (HB9.out.mono (by omega))).grown g10' (by rw [HS9.out]; omega) (fun q hq => by have := hlt9 q hq; omega))
      clear o10 g10' hat f0 f1 f2 f3 f4 ff HO9 HW9 HN9 HR9 HB9 BV9 hlf hnf hnf2
      obtain ⟨n0, n1, n2, fn⟩ := HN10.out.three
      obtain ⟨r0, r1, r2, fr⟩ := HR10.out.three
      have hlr : w.heap.size + 2 < w10.heap.size := by omega
      have hnr : ¬ w.heap.size + 2 = w3.heap.size := by omega
      have hnr2 : ¬ w3.heap.size = w.heap.size + 2 := by omega
      go_wp2
      refine bodyPost_ret (v := .tuple #[.agg #[.int .i64 sz, .int .i64 st, .slice (some ⟨g10, 0, none⟩) (n + 1) c10], .bool true]) (by simp [results, Try.results46, go_sem, r0, r1, r2]) rfl ?_
      rw [HQ2.out]
      unfold RetTB
      simp only [HLEN.out]
      have hne1 : (Value.slice (some ⟨g10, 0, none⟩) (n + 1) c10).ownBlock ≠ some (w.heap.size + 2) := row_ne HO10.out HR10.out (by decide)
      have hne2 : (Value.slice (some ⟨g10, 0, none⟩) (n + 1) c10).ownBlock ≠ some w3.heap.size := row_ne HO10.out HN10.out (by decide)
      have hb10 := HB10.out
      refine ⟨_, c10, rfl, row_wider (row_set (row_set (row_set (row_set HO10.out _ _ hne2) _ _ hne1) _ _ hne1) _ _ hne1) (by omega), below_grown ?_⟩
      go_grown
    · rw [hat]
      rw [hrs] at HQ2
      clear hat hrs
      have hk' : k < n := by rw [← HX.out]; exact hk
      clear hk
      obtain ⟨b, off, rfl, hb, _⟩ := HE4.out.at HX.out hk'
      have HAP : Hid (eCells (es.take k) ++ eCells (es.drop (k + 1)) = eCells (es.take k ++ es.drop (k + 1))) := Lib.hid (eCells_app _ _)
      have HLT := Lib.hid (show (eCells (es.take k)).length = k * 7 by rw [eCells_len, List.length_take, HX.out]; congr 1; omega)
      have HLD := Lib.hid (show (eCells (es.drop (k + 1))).length = (n - (k + 1)) * 7 by rw [eCells_len, List.length_drop, HX.out])
      have VT := Lib.hid (Ints.vals (HE4.out.take k))
      have VD := Lib.hid (Ints.vals (HE4.out.drop (k + 1)))
      have hkc : k ≤ cap := by omega
      have hkc1 : k + 1 ≤ cap := by omega
      have hs1 : (0 : Int) ≤ (k : Int) + 1 := by omega
      have hs2 : (k : Int) + 1 ≤ (n : Int) := by omega
      have hs3 : ((k : Int) + 1).toNat = k + 1 := by omega
      have hs4 : (k : Int) + 1 ≤ (cap : Int) := by omega
      have hs5 : (k : Int) ≤ (cap : Int) := by omega
      have hi1 : IntKind.i64.wrap ((k : Int) + 1) = (k : Int) + 1 := IntWalk.i64_in _ (by omega)
      have hl2 : w.heap.size < wo.heap.size := by omega
      have hl3 : w3.heap.size < wo.heap.size := HN4.out.lt
      have H1 : Hid ((wo.alloc (.cells #[] 69)).drew.ownsRow wo.heap.size 69 7 (.slice (some ⟨wo.heap.size, 0, none⟩) 0 0) 0 []) := Lib.hid (row_emp wo _ _ _ rfl (Nat.le_refl _)).drew
      have A1 : Hid (Below wo.heap.size wo (wo.alloc (.cells #[] 69)).drew) := Lib.hid ((Below.refl _ _).alloc (Nat.le_refl _) _).drew
      clear x0 x1 fx
      by_cases hkn : cap = k + 1
      · obtain rfl : n = k + 1 := by omega
        subst hkn
        have hs6 : (k : Int) ≤ (k : Int) + 1 := by omega
        have VD2 : Hid (Vals wo (some ⟨b, off, none⟩) (eCells (es.drop (k + 1)))) := Lib.hid (by
          have : es.drop (k + 1) = [] := List.drop_eq_nil_iff.2 (by rw [HX.out]; omega)
          rw [this]; exact .inl rfl)
        go_wp2_with fail
        have HL0 := Lib.hid (show (eCells (es.drop (k + 1))).length = 0 * 7 by rw [HLD.out]; omega)
        go_region_held3 (fun w' => w'.cell? ⟨w.heap.size, 2, none⟩ = some (.slice (some ⟨b, off, none⟩) (k + 1) (k + 1))) (first | (with_reducible exact keepD0 x2) | (with_reducible exact keepD1 x2 _) | (with_reducible exact kk5) | (with_reducible exact kk6) | (with_reducible exact keepS1 kk6 (by omega)) | (trace "KEEP"; trace_state; fail))
          (first
            | (refine step_appA _ rfl elemEntry (.tmp 51) (.tmp 55) rfl wo.heap.size (.slice (some ⟨wo.heap.size, 0, none⟩) 0 0) 0 [] rfl H1.out (some ⟨b, off, none⟩) k (k + 1) (eCells (es.take k)) rfl (Vals.below VT.out A1.out) HLT.out (ints_one _) (fun h => by cases h) (by omega) (by simp) k (Nat.zero_add k) (eCells (es.take k)) rfl ?_
               intro a5 c5 w5 hown5 hgrow5 hat5
               have HO5 := Lib.hid hown5
               have HB5 : Hid (Below wo.heap.size wo w5) := Lib.hid (A1.out.grown hgrow5 (by simp) (by simp [Value.ownBlock]))
               have HM5 : Hid (wo.heap.size + 1 ≤ w5.heap.size) := Lib.hid (by have := hgrow5.size; simpa using this)
               have kk5 : w5.cell? ⟨w.heap.size, 2, none⟩ = some (.slice (some ⟨b, off, none⟩) (k + 1) (k + 1)) := hgrow5.cell (keep x2 _) (by simp [Value.ownBlock]; omega))
            | (refine step_appA _ rfl elemEntry (.tmp 56) (.tmp 61) rfl wo.heap.size (.slice a5 k c5) k (eCells (es.take k)) rfl HO5.out (some ⟨b, off, none⟩) 0 0 (eCells (es.drop (k + 1))) rfl (Vals.below VD2.out HB5.out) HL0.out (ints_one _) (fun h => by cases h) (by omega) HB5.out.size k (by omega) (eCells (es.take k ++ es.drop (k + 1))) HAP.out ?_
               intro a6 c6 w6 hown6 hgrow6 hat6
               have HO6 := Lib.hid hown6
               have HB6 : Hid (Below wo.heap.size wo w6) := Lib.hid (HB5.out.grown hgrow6 HB5.out.size (fun g hg => (HO5.out.lt g hg).1))
               have HN6 : Hid (Box w6 w3.heap.size 30 [.int .i64 sz, .int .i64 st, .slice a3 (k + 1) c3]) := Lib.hid (HN4.out.keep HB6.out)
               obtain ⟨m0, m1, m2, mf⟩ := HN6.out.three
               have kk6 : w6.cell? ⟨w.heap.size, 2, none⟩ = some (.slice (some ⟨b, off, none⟩) (k + 1) (k + 1)) := (HB6.out.cell (p := ⟨w.heap.size, 2, none⟩) (by show w.heap.size < _; omega)).trans x2))
        have hz6 := HB6.out.size
        obtain ⟨ks, hks⟩ : ∃ ks, ks = (es.take k ++ es.drop (k + 1)) ++ [((y0, y1, y2, y3, y4), ho, now)] := ⟨_, rfl⟩
        rw [← hks] at HQ2
        have HKS := Lib.hid hks
        have HLEN : Hid (ks.length = (k + 1)) := Lib.hid (by rw [hks, List.length_append, List.length_append, List.length_take, List.length_drop, HX.out]; simp only [List.length_cons, List.length_nil]; omega)
        clear hks
        obtain ⟨f0, f1, f2, f3, f4, ff⟩ := (HF4.out.keep HB6.out).five
        have hlf : w.heap.size + 1 < w6.heap.size := by omega
        have hnf : ¬ w.heap.size + 1 = w3.heap.size := by omega
        have hnf2 : ¬ w3.heap.size = w.heap.size + 1 := by omega
        have hl36 : w3.heap.size < w6.heap.size := by omega
        obtain ⟨W9, hW9⟩ : ∃ W9, W9 = (w6.setCell ⟨w3.heap.size, 2, none⟩ (.slice a6 k c6)).alloc (.cells #[.int .i64 y0, .int .i64 y1, .int .i64 y2, .int .i64 y3, .int .i64 y4, .int .i64 ho, .int .i64 now] 69) := ⟨_, rfl⟩
        have HS9 : Hid (W9.heap.size = w6.heap.size + 1) := Lib.hid (by rw [hW9]; simp)
        have HN9 : Hid (Box W9 w3.heap.size 30 [.int .i64 sz, .int .i64 st, .slice a6 k c6]) := Lib.hid (by rw [hW9]; exact (HN6.out.set 2 _).alloc _)
        have HR9 : Hid (Box W9 (w.heap.size + 2) 30 [.int .i64 0, .int .i64 0, .slice none 0 0]) := Lib.hid (by rw [hW9]; exact ((HR4.out.keep HB6.out).other (by simp; omega) _).alloc _)
        have HB9 : Hid (Below w3.heap.size w3 W9) := Lib.hid (by rw [hW9]; exact ((Below.step HB3o.out HB6.out (by omega)).setCell (by simp) _).alloc (by simp; omega) _)
        have HO9 : Hid (EntRow W9 wo.heap.size a6 k c6 (es.take k ++ es.drop (k + 1))) := Lib.hid (by rw [hW9]; exact row_below (row_set HO6.out _ _ (row_ne HO6.out HN6.out (by decide))) ((Below.refl _ _).alloc (Nat.le_refl _) _))
        have BV9 : Hid (Box W9 w6.heap.size 69 [.int .i64 y0, .int .i64 y1, .int .i64 y2, .int .i64 y3, .int .i64 y4, .int .i64 ho, .int .i64 now]) := Lib.hid (by rw [hW9]; exact Box.new2 _ _ _ _ (by simp))
        have HW9 := Lib.hid hW9
        clear hW9
        go_wp2_with (at_builtin; rw [← HW9.out]; refine wpl_app _ rfl elemEntry (.tmp 65) (.tmp 70) rfl wo.heap.size (.slice a6 k c6) k _ rfl HO9.out ⟨w6.heap.size, 0, none⟩ 1 1 [.int .i64 y0, .int .i64 y1, .int .i64 y2, .int .i64 y3, .int .i64 y4, .int .i64 ho, .int .i64 now] rfl rfl (news_of BV9.out) (one7 _ _ _ _ _ _ _) (by decide) (by omega) (by rw [HS9.out]; omega) (k + 1) (by omega) (eCells ks) (by rw [HKS.out]; exact eCells_app _ [((y0, y1, y2, y3, y4), ho, now)]) ?_)
        intro g10 c10 w10 o10 g10' hat hlt10
        have HO10 := Lib.hid o10
        have hz10 := g10'.size
        rw [HS9.out] at hz10
        have hlt9 := HO9.out.lt
        have hbz : w.heap.size ≤ wo.heap.size := by omega
        have HN10 := Lib.hid (HN9.out.kept g10' (fun e => row_ne HO9.out HN9.out (by decide) e))
        have HR10 := Lib.hid (HR9.out.kept g10' (fun e => row_ne HO9.out HR9.out (by decide) e))
        have HB10 : Hid (Below w.heap.size w w10) := Lib.hid ((HB0.out.trans (HB9.out.mono (by omega))).grown g10' (by rw [HS9.out]; omega) (fun q hq => by have := hlt9 q hq; omega))
        clear o10 g10' hat f0 f1 f2 f3 f4 ff HO9 HW9 HN9 HR9 HB9 BV9 hlf hnf hnf2
        obtain ⟨n0, n1, n2, fn⟩ := HN10.out.three
        obtain ⟨r0, r1, r2, fr⟩ := HR10.out.three
        have hlr : w.heap.size + 2 < w10.heap.size := by omega
        have hnr : ¬ w.heap.size + 2 = w3.heap.size := by omega
        have hnr2 : ¬ w3.heap.size = w.heap.size + 2 := by omega
        go_wp2
        refine bodyPost_ret (v := .tuple #[.agg #[.int .i64 sz, .int .i64 st, .slice (some ⟨g10, 0, none⟩) (k + 1) c10], .bool true]) (by simp [results, Try.results46, go_sem, r0, r1, r2]) rfl ?_
        rw [HQ2.out]
        unfold RetTB
        simp only [HLEN.out]
        have hne1 : (Value.slice (some ⟨g10, 0, none⟩) (k + 1) c10).ownBlock ≠ some (w.heap.size + 2) := row_ne HO10.out HR10.out (by decide)
        have hne2 : (Value.slice (some ⟨g10, 0, none⟩) (k + 1) c10).ownBlock ≠ some w3.heap.size := row_ne HO10.out HN10.out (by decide)
        have hb10 := HB10.out
        refine ⟨_, c10, rfl, row_wider (row_set (row_set (row_set (row_set HO10.out _ _ hne2) _ _ hne1) _ _ hne1) _ _ hne1) (by omega), below_grown ?_⟩
        go_grown
      · go_wp2_with fail
        go_region_held3 (fun w' => w'.cell? ⟨w.heap.size, 2, none⟩ = some (.slice (some ⟨b, off, none⟩) n cap)) (first | (with_reducible exact keepD0 x2) | (with_reducible exact keepD1 x2 _) | (with_reducible exact kk5) | (with_reducible exact kk6) | (with_reducible exact keepS1 kk6 (by omega)) | (trace "KEEP"; trace_state; fail))
          (first
            | (refine step_appA _ rfl elemEntry (.tmp 51) (.tmp 55) rfl wo.heap.size (.slice (some ⟨wo.heap.size, 0, none⟩) 0 0) 0 [] rfl H1.out (some ⟨b, off, none⟩) k cap (eCells (es.take k)) rfl (Vals.below VT.out A1.out) HLT.out (ints_one _) (fun h => by cases h) (by omega) (by simp) k (Nat.zero_add k) (eCells (es.take k)) rfl ?_
               intro a5 c5 w5 hown5 hgrow5 hat5
               have HO5 := Lib.hid hown5
               have HB5 : Hid (Below wo.heap.size wo w5) := Lib.hid (A1.out.grown hgrow5 (by simp) (by simp [Value.ownBlock]))
               have HM5 : Hid (wo.heap.size + 1 ≤ w5.heap.size) := Lib.hid (by have := hgrow5.size; simpa using this)
               have kk5 : w5.cell? ⟨w.heap.size, 2, none⟩ = some (.slice (some ⟨b, off, none⟩) n cap) := hgrow5.cell (keep x2 _) (by simp [Value.ownBlock]; omega))
            | (refine step_appA _ rfl elemEntry (.tmp 56) (.tmp 61) rfl wo.heap.size (.slice a5 k c5) k (eCells (es.take k)) rfl HO5.out (some ⟨b, off + (k + 1) * 7, none⟩) (n - (k + 1)) (cap - (k + 1)) (eCells (es.drop (k + 1))) rfl (Vals.below VD.out HB5.out) HLD.out (ints_one _) (fun h => by cases h) (by omega) HB5.out.size (n - 1) (by omega) (eCells (es.take k ++ es.drop (k + 1))) HAP.out ?_
               intro a6 c6 w6 hown6 hgrow6 hat6
               have HO6 := Lib.hid hown6
               have HB6 : Hid (Below wo.heap.size wo w6) := Lib.hid (HB5.out.grown hgrow6 HB5.out.size (fun g hg => (HO5.out.lt g hg).1))
               have HN6 : Hid (Box w6 w3.heap.size 30 [.int .i64 sz, .int .i64 st, .slice a3 n c3]) := Lib.hid (HN4.out.keep HB6.out)
               obtain ⟨m0, m1, m2, mf⟩ := HN6.out.three
               have kk6 : w6.cell? ⟨w.heap.size, 2, none⟩ = some (.slice (some ⟨b, off, none⟩) n cap) := (HB6.out.cell (p := ⟨w.heap.size, 2, none⟩) (by show w.heap.size < _; omega)).trans x2))
        have hz6 := HB6.out.size
        obtain ⟨ks, hks⟩ : ∃ ks, ks = (es.take k ++ es.drop (k + 1)) ++ [((y0, y1, y2, y3, y4), ho, now)] := ⟨_, rfl⟩
        rw [← hks] at HQ2
        have HKS := Lib.hid hks
        have HLEN : Hid (ks.length = n) := Lib.hid (by rw [hks, List.length_append, List.length_append, List.length_take, List.length_drop, HX.out]; simp only [List.length_cons, List.length_nil]; omega)
        clear hks
        obtain ⟨f0, f1, f2, f3, f4, ff⟩ := (HF4.out.keep HB6.out).five
        have hlf : w.heap.size + 1 < w6.heap.size := by omega
        have hnf : ¬ w.heap.size + 1 = w3.heap.size := by omega
        have hnf2 : ¬ w3.heap.size = w.heap.size + 1 := by omega
        have hl36 : w3.heap.size < w6.heap.size := by omega
        obtain ⟨W9, hW9⟩ : ∃ W9, W9 = (w6.setCell ⟨w3.heap.size, 2, none⟩ (.slice a6 (n - 1) c6)).alloc (.cells #[.int .i64 y0, .int .i64 y1, .int .i64 y2, .int .i64 y3, .int .i64 y4, .int .i64 ho, .int .i64 now] 69) := ⟨_, rfl⟩
        have HS9 : Hid (W9.heap.size = w6.heap.size + 1) := Lib.hid (by rw [hW9]; simp)
        have HN9 : Hid (Box W9 w3.heap.size 30 [.int .i64 sz, .int .i64 st, .slice a6 (n - 1) c6]) := Lib.hid (by rw [hW9]; exact (HN6.out.set 2 _).alloc _)
        have HR9 : Hid (Box W9 (w.heap.size + 2) 30 [.int .i64 0, .int .i64 0, .slice none 0 0]) := Lib.hid (by rw [hW9]; exact ((HR4.out.keep HB6.out).other (by simp; omega) _).alloc _)
        have HB9 : Hid (Below w3.heap.size w3 W9) := Lib.hid (by rw [hW9]; exact ((Below.step HB3o.out HB6.out (by omega)).setCell (by simp) _).alloc (by simp; omega) _)
        have HO9 : Hid (EntRow W9 wo.heap.size a6 (n - 1) c6 (es.take k ++ es.drop (k + 1))) := Lib.hid (by rw [hW9]; exact row_below (row_set HO6.out _ _ (row_ne HO6.out HN6.out (by decide))) ((Below.refl _ _).alloc (Nat.le_refl _) _))
        have BV9 : Hid (Box W9 w6.heap.size 69 [.int .i64 y0, .int .i64 y1, .int .i64 y2, .int .i64 y3, .int .i64 y4, .int .i64 ho, .int .i64 now]) := Lib.hid (by rw [hW9]; exact Box.new2 _ _ _ _ (by simp))
        have HW9 := Lib.hid hW9
        clear hW9
        go_wp2_with (at_builtin; rw [← HW9.out]; refine wpl_app _ rfl elemEntry (.tmp 65) (.tmp 70) rfl wo.heap.size (.slice a6 (n - 1) c6) (n - 1) _ rfl HO9.out ⟨w6.heap.size, 0, none⟩ 1 1 [.int .i64 y0, .int .i64 y1, .int .i64 y2, .int .i64 y3, .int .i64 y4, .int .i64 ho, .int .i64 now] rfl rfl (news_of BV9.out) (one7 _ _ _ _ _ _ _) (by decide) (by omega) (by rw [HS9.out]; omega) n (by omega) (eCells ks) (by rw [HKS.out]; exact eCells_app _ [((y0, y1, y2, y3, y4), ho, now)]) ?_)
        intro g10 c10 w10 o10 g10' hat hlt10
        have HO10 := Lib.hid o10
        have hz10 := g10'.size
        rw [HS9.out] at hz10
        have hlt9 := HO9.out.lt
        have hbz : w.heap.size ≤ wo.heap.size := by omega
        have HN10 := Lib.hid (HN9.out.kept g10' (fun e => row_ne HO9.out HN9.out (by decide) e))
        have HR10 := Lib.hid (HR9.out.kept g10' (fun e => row_ne HO9.out HR9.out (by decide) e))
        have HB10 : Hid (Below w.heap.size w w10) := Lib.hid ((HB0.out.trans (HB9.out.mono (by omega))).grown g10' (by rw [HS9.out]; omega) (fun q hq => by have := hlt9 q hq; omega))
        clear o10 g10' hat f0 f1 f2 f3 f4 ff HO9 HW9 HN9 HR9 HB9 BV9 hlf hnf hnf2
        obtain ⟨n0, n1, n2, fn⟩ := HN10.out.three
        obtain ⟨r0, r1, r2, fr⟩ := HR10.out.three
        have hlr : w.heap.size + 2 < w10.heap.size := by omega
        have hnr : ¬ w.heap.size + 2 = w3.heap.size := by omega
        have hnr2 : ¬ w3.heap.size = w.heap.size + 2 := by omega
        go_wp2
        refine bodyPost_ret (v := .tuple #[.agg #[.int .i64 sz, .int .i64 st, .slice (some ⟨g10, 0, none⟩) n c10], .bool true]) (by simp [results, Try.results46, go_sem, r0, r1, r2]) rfl ?_
        rw [HQ2.out]
        unfold RetTB
        simp only [HLEN.out]
        have hne1 : (Value.slice (some ⟨g10, 0, none⟩) n c10).ownBlock ≠ some (w.heap.size + 2) := row_ne HO10.out HR10.out (by decide)
        have hne2 : (Value.slice (some ⟨g10, 0, none⟩) n c10).ownBlock ≠ some w3.heap.size := row_ne HO10.out HN10.out (by decide)
        have hb10 := HB10.out
        refine ⟨_, c10, rfl, row_wider (row_set (row_set (row_set (row_set HO10.out _ _ hne2) _ _ hne1) _ _ hne1) _ _ hne1) (by omega), below_grown ?_⟩
        go_grown
end Go.Proofs.Ytdkdfehlmphikaa
/- Plain laws of tables: what stays valid, what is found. No program in sight but the seat's own name. -/
namespace Go.Proofs.Ytdkdfehlmphikaa
open Go.RowKit
/-- An entry's own numbers are right. -/
def eGood (e : E7) : Prop := fv e.1 = true ∧ inB e.2.1 0 30 = true ∧ inB e.2.2 0 100000 = true
theorem getD_eq7 {es : List E7} {k : Nat} (h : k < es.length) : es.getD k e0 = es[k] := by
  rw [List.getD_eq_getElem?_getD, List.getElem?_eq_getElem h]; rfl
theorem eOk_parts {es : List E7} {k : Nat} (h : eOk es k = true) : eGood (es.getD k e0) ∧ (es.getD k e0).1 ∉ (es.take k).map (·.1) ∧ (k = 0 ∨ (es.getD (k - 1) e0).2.2 ≤ (es.getD k e0).2.2) := by
  simp only [eOk, Bool.and_eq_true, Bool.not_eq_true', decide_eq_false_iff_not, Bool.or_eq_true, decide_eq_true_eq] at h
  exact ⟨⟨h.1.1.1.1, h.1.1.2, h.1.2⟩, h.1.1.1.2, h.2⟩
theorem eOk_mk {es : List E7} {k : Nat} (h1 : eGood (es.getD k e0)) (h2 : (es.getD k e0).1 ∉ (es.take k).map (·.1)) (h3 : k = 0 ∨ (es.getD (k - 1) e0).2.2 ≤ (es.getD k e0).2.2) : eOk es k = true := by
  simp only [eOk, Bool.and_eq_true, Bool.not_eq_true', decide_eq_false_iff_not, Bool.or_eq_true, decide_eq_true_eq]
  exact ⟨⟨⟨⟨h1.1, h2⟩, h1.2.1⟩, h1.2.2⟩, h3⟩
/-- A table is valid, told without places. -/
structure TV (sz st : Int) (es : List E7) : Prop where
  size : inB sz 1 12 = true
  stay : inB st 1 100000 = true
  room : (es.length : Int) ≤ sz
  good : ∀ e ∈ es, eGood e
  apart : es.Pairwise (fun a b => a.1 ≠ b.1)
  order : es.Pairwise (fun a b => a.2.2 ≤ b.2.2)
theorem tv_TV {sz st : Int} {es : List E7} (h : tv sz st es = true) : TV sz st es := by
  obtain ⟨h1, h2, h3, h4⟩ := tv_parts h
  refine ⟨h1, h2, h3, ?_, ?_, ?_⟩
  · intro e he
    obtain ⟨k, hk, rfl⟩ := List.getElem_of_mem he
    rw [← getD_eq7 hk]
    exact (eOk_parts (h4 k hk)).1
  · rw [List.pairwise_iff_getElem]
    intro i j hi hj hij
    have := tv_apart h hj hij
    rwa [getD_eq7 hi, getD_eq7 hj] at this
  · rw [List.pairwise_iff_getElem]
    have step : ∀ d i, i + d < es.length → (es.getD i e0).2.2 ≤ (es.getD (i + d) e0).2.2 := by
      intro d
      induction d with
      | zero => intro i _; exact Int.le_refl _
      | succ d ih =>
        intro i hi
        have h5 := (eOk_parts (h4 (i + d + 1) (by omega))).2.2
        rcases h5 with h5 | h5
        · omega
        · rw [Nat.add_sub_cancel] at h5
          exact Int.le_trans (ih i (by omega)) h5
    intro i j hi hj hij
    have := step (j - i) i (by omega)
    rw [show i + (j - i) = j by omega, getD_eq7 hi, getD_eq7 hj] at this
    exact this
theorem TV_tv {sz st : Int} {es : List E7} (h : TV sz st es) : tv sz st es = true := by
  rw [tv_of (fun k hk => ?_)]
  · rw [h.size, h.stay, decide_eq_true h.room]; rfl
  · refine eOk_mk ?_ ?_ ?_
    · rw [getD_eq7 hk]; exact h.good _ (List.getElem_mem hk)
    · intro hm
      obtain ⟨x, hx, he⟩ := List.mem_map.1 hm
      obtain ⟨i, hi, rfl⟩ := List.mem_take_iff_getElem.1 hx
      have := (List.pairwise_iff_getElem.1 h.apart) i k (by omega) hk (by omega)
      rw [getD_eq7 hk] at he
      exact this he
    · by_cases hk0 : k = 0
      · exact .inl hk0
      · right
        have := (List.pairwise_iff_getElem.1 h.order) (k - 1) k (by omega) hk (by omega)
        rwa [getD_eq7 hk, getD_eq7 (by omega)]
theorem TV.sub {sz st : Int} {es ks : List E7} (h : TV sz st es) (hs : ks.Sublist es) : TV sz st ks :=
  ⟨h.size, h.stay, by have := hs.length_le; have := h.room; omega, fun e he => h.good e (hs.subset he), h.apart.sublist hs, h.order.sublist hs⟩
theorem TV.one {sz st : Int} {es : List E7} (h : TV sz st es) {e e' : E7} (he : e ∈ es) (he' : e' ∈ es) (hf : e.1 = e'.1) : e = e' := by
  obtain ⟨i, hi, rfl⟩ := List.getElem_of_mem he
  obtain ⟨j, hj, rfl⟩ := List.getElem_of_mem he'
  have := List.pairwise_iff_getElem.1 h.apart
  rcases Nat.lt_trichotomy i j with hij | hij | hij
  · exact absurd hf (this i j hi hj hij)
  · subst hij; rfl
  · exact absurd hf.symm (this j i hj hi hij)
/-- Where the last stands, none is later. -/
theorem TV.last {sz st : Int} {es : List E7} (h : TV sz st es) {e : E7} (he : e ∈ es) : e.2.2 ≤ lastOf es := by
  obtain ⟨i, hi, rfl⟩ := List.getElem_of_mem he
  rw [lastOf, if_neg (by omega), getD_eq7 (by omega)]
  by_cases hij : i = es.length - 1
  · subst hij; exact Int.le_refl _
  · exact (List.pairwise_iff_getElem.1 h.order) i (es.length - 1) hi (by omega) (by omega)
theorem lastOf_le {es : List E7} {x : Int} (hx : 0 ≤ x) (h : ∀ e ∈ es, e.2.2 ≤ x) : lastOf es ≤ x := by
  rw [lastOf]
  split
  · exact hx
  · rw [getD_eq7 (by omega)]
    exact h _ (List.getElem_mem (by omega))
theorem fitB_of {es : List E7} {now : Int} (h1 : inB now 0 100000 = true) (h : ∀ e ∈ es, e.2.2 ≤ now) : fitB es now = true := by
  rw [fitB, h1, decide_eq_true (lastOf_le (inB_true.1 h1).1 h)]; rfl
/-- The host of a flow in a table, or -1. -/
def findT (t : T3) (f : F5) : Int := if tv t.1 t.2.1 t.2.2 = true then (if pOf t.2.2 f < 0 then -1 else (t.2.2.getD (pOf t.2.2 f).toNat e0).2.1) else -1
theorem find_mem {sz st : Int} {es : List E7} (h : tv sz st es = true) {e : E7} (he : e ∈ es) : findT (sz, st, es) e.1 = e.2.1 := by
  unfold findT
  rw [if_pos h]
  rcases pOf_cases es e.1 with ⟨hno, _⟩ | ⟨_, k, hp, hk, hkf, _⟩
  · exact absurd (List.mem_map.2 ⟨e, he, rfl⟩) hno
  · dsimp only
    rw [hp, if_neg (by omega), Int.toNat_natCast]
    have : es.getD k e0 = e := (tv_TV h).one (by rw [getD_eq7 hk]; exact List.getElem_mem hk) he hkf
    rw [this]
theorem find_no {sz st : Int} {es : List E7} {f : F5} (h : f ∉ es.map (·.1)) : findT (sz, st, es) f = -1 := by
  unfold findT
  split
  · rcases pOf_cases es f with ⟨_, hp⟩ | ⟨hyes, _⟩
    · dsimp only; rw [hp]; rfl
    · exact absurd hyes h
  · rfl
theorem find_bad {t : T3} {f : F5} (h : tv t.1 t.2.1 t.2.2 = false) : findT t f = -1 := by rw [findT, h]; rfl
theorem find_cases {sz st : Int} {es : List E7} (f : F5) (h : tv sz st es = true) : (f ∉ es.map (·.1) ∧ findT (sz, st, es) f = -1) ∨ ∃ e ∈ es, e.1 = f ∧ findT (sz, st, es) f = e.2.1 := by
  by_cases hm : f ∈ es.map (·.1)
  · right
    obtain ⟨e, he, rfl⟩ := List.mem_map.1 hm
    exact ⟨e, he, rfl, find_mem h he⟩
  · exact .inl ⟨hm, find_no hm⟩
theorem tv_zero : tv 0 0 [] = false := by decide
/-- ExpireTable's plain law. -/
theorem exp_size {t : T3} {now : Int} : ((expT t now).1 = 0 ∧ expT t now = (0, 0, [])) ∨ (tv t.1 t.2.1 t.2.2 = true ∧ fitB t.2.2 now = true ∧ expT t now = (t.1, t.2.1, t.2.2.filter (fun e => !oldB now t.2.1 e)) ∧ 1 ≤ t.1) := by
  unfold expT
  split
  · rename_i h
    simp only [Bool.and_eq_true] at h
    exact .inr ⟨h.1, h.2, rfl, (inB_true.1 (tv_parts h.1).1).1⟩
  · exact .inl ⟨rfl, rfl⟩
theorem exp_valid {sz st now : Int} {es : List E7} (h : tv sz st es = true) : tv sz st (es.filter (fun e => !oldB now st e)) = true := TV_tv ((tv_TV h).sub List.filter_sublist)
theorem exp_twice {sz st now : Int} {es : List E7} (h : tv sz st es = true) (hf : fitB es now = true) : expT (sz, st, es.filter (fun e => !oldB now st e)) now = (sz, st, es.filter (fun e => !oldB now st e)) := by
  have h1 := exp_valid (now := now) h
  have h2 : fitB (es.filter (fun e => !oldB now st e)) now = true := fitB_of (fit_now hf).1 (fun e he => Int.le_trans ((tv_TV h).last (List.mem_filter.1 he).1) (fit_now hf).2)
  unfold expT
  rw [if_pos (by rw [h1, h2]; rfl)]
  simp [List.filter_filter]
/-- DropFlow's plain laws. -/
theorem drop_size {t : T3} {f : F5} : (tv t.1 t.2.1 t.2.2 = false ∧ dropT t f = (0, 0, [])) ∨ (tv t.1 t.2.1 t.2.2 = true ∧ dropT t f = (t.1, t.2.1, t.2.2.filter (fun e => !decide (e.1 = f))) ∧ 1 ≤ t.1) := by
  unfold dropT
  split
  · rename_i h
    exact .inr ⟨h, rfl, (inB_true.1 (tv_parts h).1).1⟩
  · rename_i h
    exact .inl ⟨by simpa using h, rfl⟩
theorem drop_valid {sz st : Int} {es : List E7} (f : F5) (h : tv sz st es = true) : tv sz st (es.filter (fun e => !decide (e.1 = f))) = true := TV_tv ((tv_TV h).sub List.filter_sublist)
theorem drop_gone (t : T3) (f : F5) : findT (dropT t f) f = -1 := by
  obtain ⟨sz, st, es⟩ := t
  rcases drop_size (t := (sz, st, es)) (f := f) with ⟨_, h⟩ | ⟨_, h, _⟩
  · rw [h]; exact find_bad tv_zero
  · rw [h]
    refine find_no fun hm => ?_
    obtain ⟨e, he, hf⟩ := List.mem_map.1 hm
    have := (List.mem_filter.1 he).2
    simp [hf] at this
theorem drop_keeps {sz st : Int} {es : List E7} {f : F5} (h : tv sz st es = true) {e : E7} (he : e ∈ es) (hf : e.1 ≠ f) : findT (dropT (sz, st, es) f) e.1 = e.2.1 := by
  rcases drop_size (t := (sz, st, es)) (f := f) with ⟨h', _⟩ | ⟨_, hd, _⟩
  · rw [h] at h'; cases h'
  · rw [hd]
    exact find_mem (drop_valid f h) (List.mem_filter.2 ⟨he, by simpa using hf⟩)
theorem drop_twice {sz st : Int} {es : List E7} (f : F5) (h : tv sz st es = true) : dropT (sz, st, es.filter (fun e => !decide (e.1 = f))) f = (sz, st, es.filter (fun e => !decide (e.1 = f))) := by
  unfold dropT
  rw [if_pos (drop_valid f h)]
  simp [List.filter_filter]
end Go.Proofs.Ytdkdfehlmphikaa
/- FindFlow of both; two tables compared. No condition but lists of at most 2^20 entries. -/
namespace Go.Proofs.Ytdkdfehlmphikaa
open Go.RowKit
set_option maxRecDepth 100000 in
set_option maxHeartbeats 4000000 in
theorem c_FindFlow (sz st : Int) (f : F5) (a : Option Addr) (n cap : Nat) (es : List E7) (w : World) (hxs : es.length = n) (hn : n ≤ 1048576) (h : Ents w a es) :
    Calls Try.prog 41 #[.agg #[.int .i64 sz, .int .i64 st, .slice a n cap], fvv f] w fun e w' => e = .returned (.int .i64 (findT (sz, st, es) f)) ∧ Below w.heap.size w w' := by
  obtain ⟨y0, y1, y2, y3, y4⟩ := f
  unfold fvv
  obtain ⟨W, hW, gW, sW, bt, bf⟩ := headB w 30 37 [.int .i64 sz, .int .i64 st, .slice a n cap] [.int .i64 y0, .int .i64 y1, .int .i64 y2, .int .i64 y3, .int .i64 y4]
  have HX := Lib.hid hxs
  have HW := Lib.hid hW
  have HB1 := Lib.hid gW
  have hz1 : w.heap.size + 2 ≤ W.heap.size := by omega
  have HE1 := Lib.hid (h.below gW)
  have HT1 := Lib.hid bt
  have HF1 := Lib.hid bf
  have HQ : Hid (findT (sz, st, es) (y0, y1, y2, y3, y4) = if tv sz st es = true then (if pOf es (y0, y1, y2, y3, y4) < 0 then -1 else (es.getD (pOf es (y0, y1, y2, y3, y4)).toNat e0).2.1) else -1) := Lib.hid rfl
  clear hxs hW gW sW h bt bf
  go_enter Try.func41, Try.ntmps41
  go_wp2_with fail
  rw [← HW.out]
  (with_reducible refine (c_TableValid sz st a n cap es _ HX.out hn HE1.out).mono ?_)
  rintro e w2 ⟨rfl, b2⟩
  have HB2 := Lib.hid (Below.step HB1.out b2 (by omega))
  have hz2 : w.heap.size + 2 ≤ w2.heap.size := by have := b2.size; omega
  have HT2 := Lib.hid (HT1.out.keep b2)
  have HF2 := Lib.hid (HF1.out.keep b2)
  have HE2 := Lib.hid (HE1.out.below b2)
  clear b2 HB1 HT1 HF1 HE1 hz1
  obtain ⟨t0, t1, t2, ft⟩ := HT2.out.three
  obtain ⟨f0, f1, f2, f3, f4, ff⟩ := HF2.out.five
  cases h1 : tv sz st es
  · have HZ := Lib.hid (HQ.out.trans (by rw [h1, if_neg Bool.false_ne_true]))
    go_wp2
    go_ret
    exact ⟨ret_int HZ.out.symm, HB2.out⟩
  have HQ2 := Lib.hid (HQ.out.trans (if_pos h1))
  clear HQ h1
  go_wp2_with fail
  refine (c_find sz st (y0, y1, y2, y3, y4) a n cap es _ HX.out hn HE2.out).mono ?_
  rintro e w3 ⟨rfl, b3⟩
  have HB3 := Lib.hid (Below.step HB2.out b3 (by omega))
  have hz3 : w.heap.size + 2 ≤ w3.heap.size := by have := b3.size; omega
  have HT3 := Lib.hid (HT2.out.keep b3)
  have HF3 := Lib.hid (HF2.out.keep b3)
  have HE3 := Lib.hid (HE2.out.below b3)
  clear b3 HB2 HT2 HF2 HE2 hz2 t0 t1 t2 ft f0 f1 f2 f3 f4 ff
  have HC3 := Lib.hid (fun (m : Aft w3) => c_find sz st (y0, y1, y2, y3, y4) a n cap es m.W HX.out hn (HE3.out.below m.le))
  rcases pOf_cases es (y0, y1, y2, y3, y4) with ⟨_, hpo⟩ | ⟨_, k, hpo, hk, _, _⟩
  · have HZ := Lib.hid (HQ2.out.trans (by rw [hpo, if_pos (by omega)]))
    rw [hpo]
    clear HQ2 hpo HC3
    go_wp2
    go_ret
    exact ⟨ret_int HZ.out.symm, HB3.out⟩
  · have hk' : k < n := by rw [← HX.out]; exact hk
    have HZ := Lib.hid (HQ2.out.trans (by rw [hpo, if_neg (by omega), Int.toNat_natCast]))
    rw [hpo] at HC3 ⊢
    clear HQ2 hpo hk
    obtain ⟨b, off, rfl, hb, hc⟩ := HE3.out.at HX.out hk'
    obtain ⟨_, _, _, _, _, c5, _⟩ := hc k hk'
    obtain ⟨t0, t1, t2, ft⟩ := HT3.out.three
    obtain ⟨f0, f1, f2, f3, f4, ff⟩ := HF3.out.five
    have a0 := aft_cell t0
    have a1 := aft_cell t1
    have a2 := aft_cell t2
    have q0 := aft_cell f0
    have q1 := aft_cell f1
    have q2 := aft_cell f2
    have q3 := aft_cell f3
    have q4 := aft_cell f4
    have r5 := aft_cell c5
    generalize (es.getD k e0).2.1 = M at *
    clear hc t0 t1 t2 ft f0 f1 f2 f3 f4 ff c5
    go_wp2
    refine wp_region_quietC (by kernel_rfl) (by kernel_rfl) ?_
    repeat (go_big_quiet_step ((first
      | (go_at_call 81; exact aft_call (HC3.out _)))))
    refine wpQuiet_nil ?_
    rintro _ ⟨⟨w6, hb6⟩, rfl⟩
    have HB6 := Lib.hid (Below.step HB3.out hb6 (by omega))
    clear hb6
    go_wp2
    go_ret
    exact ⟨ret_int HZ.out.symm, HB6.out⟩
set_option maxRecDepth 100000 in
set_option maxHeartbeats 4000000 in
theorem s_FindFlow (sz st : Int) (f : F5) (a : Option Addr) (n cap : Nat) (es : List E7) (w : World) (hxs : es.length = n) (hn : n ≤ 1048576) (hcap : n ≤ cap) (h : Ents w a es) :
    Calls Try.prog 42 #[.agg #[.int .i64 sz, .int .i64 st, .slice a n cap], fvv f] w fun e w' => e = .returned (.int .i64 (findT (sz, st, es) f)) ∧ Below w.heap.size w w' := by
  obtain ⟨y0, y1, y2, y3, y4⟩ := f
  unfold fvv
  obtain ⟨W, hW, gW, sW, bt, bf⟩ := headB w 30 37 [.int .i64 sz, .int .i64 st, .slice a n cap] [.int .i64 y0, .int .i64 y1, .int .i64 y2, .int .i64 y3, .int .i64 y4]
  have HX := Lib.hid hxs
  have HW := Lib.hid hW
  have HB1 := Lib.hid gW
  have hz1 : w.heap.size + 2 ≤ W.heap.size := by omega
  have HE1 := Lib.hid (h.below gW)
  have HT1 := Lib.hid bt
  have HF1 := Lib.hid bf
  have HQ : Hid (findT (sz, st, es) (y0, y1, y2, y3, y4) = if tv sz st es = true then (if pOf es (y0, y1, y2, y3, y4) < 0 then -1 else (es.getD (pOf es (y0, y1, y2, y3, y4)).toNat e0).2.1) else -1) := Lib.hid rfl
  clear hxs hW gW sW h bt bf
  go_enter Try.func42, Try.ntmps42
  go_wp2_with fail
  rw [← HW.out]
  (with_reducible refine (s_TableValid sz st a n cap es _ HX.out hn hcap HE1.out).mono ?_)
  rintro e w2 ⟨rfl, b2⟩
  have HB2 := Lib.hid (Below.step HB1.out b2 (by omega))
  have hz2 : w.heap.size + 2 ≤ w2.heap.size := by have := b2.size; omega
  have HT2 := Lib.hid (HT1.out.keep b2)
  have HF2 := Lib.hid (HF1.out.keep b2)
  have HE2 := Lib.hid (HE1.out.below b2)
  clear b2 HB1 HT1 HF1 HE1 hz1
  obtain ⟨t0, t1, t2, ft⟩ := HT2.out.three
  obtain ⟨f0, f1, f2, f3, f4, ff⟩ := HF2.out.five
  cases h1 : tv sz st es
  · have HZ := Lib.hid (HQ.out.trans (by rw [h1, if_neg Bool.false_ne_true]))
    go_wp2
    go_ret
    exact ⟨ret_int HZ.out.symm, HB2.out⟩
  have HQ2 := Lib.hid (HQ.out.trans (if_pos h1))
  clear HQ h1
  go_wp2_with fail
  refine (c_place (y0, y1, y2, y3, y4) a n cap es _ HX.out hn HE2.out).mono ?_
  rintro e w3 ⟨rfl, b3⟩
  have HB3 := Lib.hid (Below.step HB2.out b3 (by omega))
  have hz3 : w.heap.size + 2 ≤ w3.heap.size := by have := b3.size; omega
  have HT3 := Lib.hid (HT2.out.keep b3)
  have HE3 := Lib.hid (HE2.out.below b3)
  clear b3 HB2 HT2 HF2 HE2 hz2 t0 t1 t2 ft f0 f1 f2 f3 f4 ff
  rcases pOf_cases es (y0, y1, y2, y3, y4) with ⟨_, hpo⟩ | ⟨_, k, hpo, hk, _, _⟩
  · have HZ := Lib.hid (HQ2.out.trans (by rw [hpo, if_pos (by omega)]))
    rw [hpo]
    clear HQ2 hpo
    go_wp2
    go_ret
    exact ⟨ret_int HZ.out.symm, HB3.out⟩
  · have hk' : k < n := by rw [← HX.out]; exact hk
    have HZ := Lib.hid (HQ2.out.trans (by rw [hpo, if_neg (by omega), Int.toNat_natCast]))
    rw [hpo]
    clear HQ2 hpo hk
    obtain ⟨b, off, rfl, hb, hc⟩ := HE3.out.at HX.out hk'
    obtain ⟨_, _, _, _, _, c5, _⟩ := hc k hk'
    obtain ⟨t0, t1, t2, ft⟩ := HT3.out.three
    generalize (es.getD k e0).2.1 = M at *
    clear hc
    go_wp2
    go_ret
    exact ⟨ret_int HZ.out.symm, HB3.out⟩
theorem entryFields : Try.prog.underlying 69 = some (.struct (Try.prog.fieldsOf 69)) := by kernel_rfl
theorem entryStood : Try.prog.stoodInHeld 69 = false := by kernel_rfl
theorem run_neqE (x0 x1 x2 x3 x4 x5 x6 : Int) (w : World) : (binOp .neq 69 (.agg #[.int .i64 x0, .int .i64 x1, .int .i64 x2, .int .i64 x3, .int .i64 x4, .int .i64 x5, .int .i64 x6]) (.agg #[.int .i64 x0, .int .i64 x1, .int .i64 x2, .int .i64 x3, .int .i64 x4, .int .i64 x5, .int .i64 x6])).run Try.prog w = .ok (.bool false) w := by
  have he : (Op.equalIn 10000 69 (.agg #[.int .i64 x0, .int .i64 x1, .int .i64 x2, .int .i64 x3, .int .i64 x4, .int .i64 x5, .int .i64 x6]) (.agg #[.int .i64 x0, .int .i64 x1, .int .i64 x2, .int .i64 x3, .int .i64 x4, .int .i64 x5, .int .i64 x6])).run Try.prog w = .ok true w := by
    show (Op.equalIn (9999 + 1) _ _ _).run Try.prog w = _
    rw [run_equalIn_agg _ _ _ _ _ entryFields entryStood]
    simp [go_sem]
  rw [run_neq_struct, he]; rfl
set_option maxHeartbeats 4000000 in
theorem c_sameTable (N R : Int) (a b : Option Addr) (n ca cb : Nat) (es : List E7) (w : World) (hxs : es.length = n) (hn : n ≤ 1048576) (ha : Ents w a es) (hb : Ents w b es) :
    Calls Try.prog 18 #[.agg #[.int .i64 N, .int .i64 R, .slice a n ca], .agg #[.int .i64 N, .int .i64 R, .slice b n cb]] w fun e w' => e = .returned (.bool true) ∧ Below w.heap.size w w' := by
  have HX := Lib.hid hxs
  have HA := Lib.hid ha
  have HB := Lib.hid hb
  clear hxs ha hb
  go_enter Try.func18, Try.ntmps18
  go_wp2
  go_loopw [5] (fun i wr => ∃ (k : Nat), k ≤ n ∧ i = .int .i64 k ∧ Below w.heap.size w wr ∧ Box wr w.heap.size 30 [.int .i64 N, .int .i64 R, .slice a n ca] ∧ Box wr (w.heap.size + 1) 30 [.int .i64 N, .int .i64 R, .slice b n cb]) (fun i _ => n - (intOf i).toNat)
  case atStart => exact ⟨0, Nat.zero_le _, rfl, ((Below.refl _ _).alloc (Nat.le_refl _) _).alloc (by simp) _, (Box.new _ _ _).alloc _, Box.new2 _ _ _ _ (by simp)⟩
  case round =>
    obtain ⟨k, hk, rfl, hG, hP, hQ⟩ := hrel
    have HG := Lib.hid hG
    have HP := Lib.hid hP
    have HQ := Lib.hid hQ
    clear hG hP hQ
    obtain ⟨s0, s1, s2, sf⟩ := HP.out.three
    obtain ⟨t0, t1, t2, tf⟩ := HQ.out.three
    by_cases hlt : k < n
    · obtain ⟨b1, off1, rfl, _, hc1⟩ := (HA.out.below HG.out).at HX.out hlt
      obtain ⟨b2, off2, rfl, _, hc2⟩ := (HB.out.below HG.out).at HX.out hlt
      obtain ⟨c0, c1, c2, c3, c4, c5, c6⟩ := hc1 k hlt
      obtain ⟨d0, d1, d2, d3, d4, d5, d6⟩ := hc2 k hlt
      clear hc1 hc2
      generalize es.getD k e0 = E at *
      obtain ⟨⟨x0, x1, x2, x3, x4⟩, x5, x6⟩ := E
      dsimp only at c0 c1 c2 c3 c4 c5 c6 d0 d1 d2 d3 d4 d5 d6
      have hne := run_neqE x0 x1 x2 x3 x4 x5 x6
      go_wp2
      go_quiet (fail)
      go_wp2
      go_roundw
      case rel => exact ⟨k + 1, by omega, by go_num, below_drewN HG.out _, HP.out.drewN _, HQ.out.drewN _⟩
      case measure => simp [intOf]; omega
    · go_wp2
      go_ret
      exact ⟨rfl, HG.out⟩
end Go.Proofs.Ytdkdfehlmphikaa
