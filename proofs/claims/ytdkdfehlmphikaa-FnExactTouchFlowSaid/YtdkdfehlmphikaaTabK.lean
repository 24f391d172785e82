/- ExpireTable of the reference. No condition but lists of at most 2^20 entries. -/
import Derived.Test.YtdkdfehlmphikaaTabJ
import Derived.Test.YtdkdfehlmphikaaTabW
import Derived.Deep.DeepCutAuto
import Derived.Deep.RegionLaw
namespace Go.Proofs.Ytdkdfehlmphikaa
open Go.RowKit
theorem tv_lastOf {sz st : Int} {es : List E7} (h : tv sz st es = true) : 0 ≤ lastOf es := by
  unfold lastOf
  split
  · omega
  · rename_i h0
    exact (inB_true.1 (tv_last h (getD_mem7 (show es.length - 1 < es.length by omega)))).1
theorem fit_in {sz st : Int} {es : List E7} (h : tv sz st es = true) (now : Int) : inB now (lastOf es) 100000 = fitB es now := by
  have := tv_lastOf h
  rw [Bool.eq_iff_iff, inB_true]
  simp only [fitB, Bool.and_eq_true, decide_eq_true_eq, inB_true]
  omega
theorem exp_step {es : List E7} {now st : Int} {k : Nat} (hk : k < es.length) (h : oldB now st (es.getD k e0) = false) : (es.take (k + 1)).filter (fun e => !oldB now st e) = (es.take k).filter (fun e => !oldB now st e) ++ [es.getD k e0] := by
  rw [take_one rfl hk, List.filter_append]
  simp [-List.getD_eq_getElem?_getD, h]
theorem exp_skip {es : List E7} {now st : Int} {k : Nat} (hk : k < es.length) (h : oldB now st (es.getD k e0) = true) : (es.take (k + 1)).filter (fun e => !oldB now st e) = (es.take k).filter (fun e => !oldB now st e) := by
  rw [take_one rfl hk, List.filter_append]
  simp [-List.getD_eq_getElem?_getD, h]
set_option maxRecDepth 100000 in
set_option maxHeartbeats 8000000 in
theorem s_ExpireTable (sz st now : Int) (a : Option Addr) (n cap : Nat) (es : List E7) (w : World) (hxs : es.length = n) (hn : n ≤ 1048576) (h : Ents w a es) (ha : a = none → n = 0 ∧ cap = 0) :
    Calls Try.prog 51 #[.agg #[.int .i64 sz, .int .i64 st, .slice a n cap], .int .i64 now] w (RetT w (expT (sz, st, es) now)) := by
  obtain ⟨W, hW, gW, sW, bt, br⟩ := headB w 30 30 [.int .i64 sz, .int .i64 st, .slice a n cap] [.int .i64 0, .int .i64 0, .slice none 0 0]
  have HX := Lib.hid hxs
  have HW := Lib.hid hW
  have HG := Lib.hid gW
  have HS := Lib.hid sW
  have HA := Lib.hid ha
  have HE := Lib.hid (h.below gW)
  have HBT := Lib.hid bt
  have HBR := Lib.hid br
  have HQ : Hid (expT (sz, st, es) now = if (tv sz st es && fitB es now) = true then (sz, st, es.filter (fun e => !oldB now st e)) else (0, 0, [])) := Lib.hid rfl
  clear hxs hW gW sW ha h bt br
  go_enter Try.func51, Try.ntmps51
  go_wp2_with fail
  rw [← HW.out]
  (with_reducible refine (s_own sz st a n cap es _ HX.out hn HE.out HA.out).mono ?_)
  rintro e w2 ⟨a2, c2, rfl, o2, g2, n2⟩
  rw [HX.out] at o2 ⊢
  have HN2 := Lib.hid n2
  have HB2 := Lib.hid (grown_below g2)
  have hz2 := g2.size
  rw [HS.out] at hz2
  have LT2 := Lib.hid o2.lt
  have hbt2 := HBT.out.keep HB2.out
  have hbr2 := HBR.out.keep HB2.out
  have hne : (Value.slice a2 n c2).ownBlock ≠ some w.heap.size := row_ne o2 hbt2 (by decide)
  obtain ⟨x0, x1, x2, fx⟩ := hbt2.three
  obtain ⟨W3, hW3⟩ : ∃ W3, W3 = ((w2.setCell ⟨w.heap.size, 0, none⟩ (.int .i64 sz)).setCell ⟨w.heap.size, 1, none⟩ (.int .i64 st)).setCell ⟨w.heap.size, 2, none⟩ (.slice a2 n c2) := ⟨_, rfl⟩
  have HB3 : Hid (Below w.heap.size w W3) := Lib.hid (by rw [hW3]; exact ((((Below.step HG.out HB2.out HG.out.size).setCell (by simp) _).setCell (by simp) _).setCell (by simp) _))
  have HT3 : Hid (Box W3 w.heap.size 30 [.int .i64 sz, .int .i64 st, .slice a2 n c2]) := Lib.hid (by rw [hW3]; exact ((hbt2.set 0 _).set 1 _).set 2 _)
  have HR3 : Hid (Box W3 (w.heap.size + 1) 30 [.int .i64 0, .int .i64 0, .slice none 0 0]) := Lib.hid (by rw [hW3]; exact ((hbr2.other (by simp) _).other (by simp) _).other (by simp) _)
  have HO3 : Hid (EntRow W3 W.heap.size a2 n c2 es) := Lib.hid (by rw [hW3]; exact row_set (row_set (row_set o2 _ _ hne) _ _ hne) _ _ hne)
  have hz3 : W3.heap.size = w2.heap.size := by rw [hW3]; simp
  have HW3 := Lib.hid hW3
  clear o2 g2 n2 hbt2 hbr2 hne hW3
  go_upto_region 2 with fail
  rw [← HW3.out]
  clear x0 x1 x2 fx
  obtain ⟨t0, t1, t2, ft⟩ := HT3.out.three
  go_wp2_with fail
  (with_reducible refine (s_TableValid sz st a2 n c2 es _ HX.out hn (row_cap HO3.out).1 (EntRow.ents HO3.out)).mono ?_)
  rintro e w4 ⟨rfl, hb4⟩
  have hz4 := hb4.size
  have HB4 := Lib.hid (Below.step HB3.out hb4 HB3.out.size)
  have HT4 := Lib.hid (HT3.out.keep hb4)
  have HR4 := Lib.hid (HR3.out.keep hb4)
  have HO4 : Hid (EntRow w4 W.heap.size a2 n c2 es) := Lib.hid (row_below HO3.out hb4)
  clear hb4 t0 t1 t2 ft
  obtain ⟨t0, t1, t2, ft⟩ := HT4.out.three
  obtain ⟨r0, r1, r2, fr⟩ := HR4.out.three
  cases h1 : tv sz st es
  · go_wp2
    refine bodyPost_ret (v := .agg #[.int .i64 0, .int .i64 0, .slice none 0 0]) (by simp [results, Try.results51, go_sem, r0, r1, r2]) rfl ?_
    rw [HQ.out, h1, Bool.false_and, if_neg Bool.false_ne_true]
    refine retZero w _ ?_
    have := HB4.out
    go_grown
  have HV := Lib.hid h1
  rw [h1, Bool.true_and] at HQ
  clear h1
  go_wp2_with fail
  (with_reducible refine (s_last sz st a2 n c2 es _ HX.out hn (EntRow.ents HO4.out)).mono ?_)
  rintro e w5 ⟨rfl, hb5⟩
  have hz5 := hb5.size
  have HB5 := Lib.hid (Below.step HB4.out hb5 HB4.out.size)
  have HT5 := Lib.hid (HT4.out.keep hb5)
  have HR5 := Lib.hid (HR4.out.keep hb5)
  have HO5 : Hid (EntRow w5 W.heap.size a2 n c2 es) := Lib.hid (row_below HO4.out hb5)
  clear hb5 t0 t1 t2 ft r0 r1 r2 fr
  obtain ⟨t0, t1, t2, ft⟩ := HT5.out.three
  obtain ⟨r0, r1, r2, fr⟩ := HR5.out.three
  have hfit := fit_in HV.out now
  cases h1 : fitB es now
  · rw [h1] at hfit
    go_wp2_with (go_at_call 87; refine (c_l1In _ _ _ _).mono ?_; rintro e w' ⟨rfl, rfl⟩)
    refine bodyPost_ret (v := .agg #[.int .i64 0, .int .i64 0, .slice none 0 0]) (by simp [results, Try.results51, go_sem, r0, r1, r2]) rfl ?_
    rw [HQ.out, h1, if_neg Bool.false_ne_true]
    refine retZero w _ ?_
    have := HB5.out
    go_grown
  rw [h1] at hfit
  have HQ2 := Lib.hid (HQ.out.trans (if_pos h1))
  have HNOW := Lib.hid (fit_now h1).1
  clear HQ h1
  have hlt0 : w.heap.size < w5.heap.size := HT5.out.lt
  go_wp2_with (go_at_call 87; refine (c_l1In _ _ _ _).mono ?_; rintro e w' ⟨rfl, rfl⟩)
  clear t0 t1 t2 ft r0 r1 r2 fr hfit
  obtain ⟨W6, hW6⟩ : ∃ W6, W6 = (w5.alloc (.cells #[] 69)).alloc (.cells #[.int .i64 sz, .int .i64 st, .slice (some ⟨w5.heap.size, 0, none⟩) 0 0] 30) := ⟨_, rfl⟩
  have HB6 : Hid (Below w.heap.size w W6) := Lib.hid (by rw [hW6]; exact (HB5.out.alloc (by omega) _).alloc (by simp; omega) _)
  have HT6 : Hid (Box W6 w.heap.size 30 [.int .i64 sz, .int .i64 st, .slice a2 n c2]) := Lib.hid (by rw [hW6]; exact (HT5.out.alloc _).alloc _)
  have HR6 : Hid (Box W6 (w.heap.size + 1) 30 [.int .i64 0, .int .i64 0, .slice none 0 0]) := Lib.hid (by rw [hW6]; exact (HR5.out.alloc _).alloc _)
  have HE6 : Hid (Ents W6 a2 es) := Lib.hid (by rw [hW6]; exact (EntRow.ents HO5.out).below (((Below.refl _ _).alloc (Nat.le_refl _) _).alloc (by simp) _))
  have HN6 : Hid (Box W6 (w5.heap.size + 1) 30 [.int .i64 sz, .int .i64 st, .slice (some ⟨w5.heap.size, 0, none⟩) 0 0]) := Lib.hid (by rw [hW6]; exact Box.new2 _ _ _ _ (by simp))
  have HO6 : Hid (EntRow W6 w5.heap.size (some ⟨w5.heap.size, 0, none⟩) 0 0 []) := Lib.hid (by rw [hW6]; exact row_below (row_emp w5 _ _ _ rfl (Nat.le_refl _)) ((Below.refl _ _).alloc (Nat.le_refl _) _))
  have HA2 : Hid (∀ q, a2 = some q → q.block < w5.heap.size) := Lib.hid fun q hq => by have := (LT2.out q.block (by rw [hq]; rfl)).2; omega
  have HW6 := Lib.hid hW6
  have hzb : W6.heap.size = w5.heap.size + 2 := by rw [hW6]; simp
  clear hW6 HB4 HT4 HR4 HO4 HO3 HT3 HR3 HB3 HBT HBR HE HA HO5 HT5 HR5
  rw [← HW6.out]
  go_loopw [6] (fun i wr => ∃ (k m c' : Nat) (a' : Option Addr), k ≤ n ∧ i = .int .i64 k ∧ Below w.heap.size w wr ∧ Box wr w.heap.size 30 [.int .i64 sz, .int .i64 st, .slice a2 n c2] ∧ Box wr (w.heap.size + 1) 30 [.int .i64 0, .int .i64 0, .slice none 0 0] ∧ Ents wr a2 es ∧
      Box wr (w5.heap.size + 1) 30 [.int .i64 sz, .int .i64 st, .slice a' m c'] ∧ EntRow wr w5.heap.size a' m c' ((es.take k).filter (fun e => !oldB now st e))) (fun i _ => n - (intOf i).toNat)
  case atStart => exact ⟨0, 0, 0, _, Nat.zero_le _, rfl, HB6.out, HT6.out, HR6.out, HE6.out, HN6.out, HO6.out⟩
  case round =>
    obtain ⟨k, m, c', a', hk, rfl, hB, hT, hR, hE, hN, hO⟩ := hrel
    have HB := Lib.hid hB
    have HT := Lib.hid hT
    have HR := Lib.hid hR
    have HE := Lib.hid hE
    have HN := Lib.hid hN
    have HO := Lib.hid hO
    have hlN := hN.lt
    have hml : m ≤ n := by
      have h1 := (EntRow.len hO)
      have h2 := List.length_filter_le (fun e => !oldB now st e) (es.take k)
      rw [List.length_take, HX.out] at h2
      omega
    obtain ⟨t0, t1, t2, ft⟩ := hT.three
    clear hB hT hR hE hN hO HB6 HT6 HR6 HE6 HN6 HO6 HW6
    by_cases hlt : k < n
    · obtain ⟨b, off, rfl, hb, hc⟩ := HE.out.at HX.out hlt
      obtain ⟨d0, d1, d2, d3, d4, d5, d6⟩ := hc k hlt
      clear hc
      have hbl : b < w5.heap.size := HA2.out ⟨b, off, none⟩ rfl
      have HL6 := Lib.hid (tv_last HV.out (getD_mem7 (show k < es.length by rw [HX.out]; exact hlt)))
      have HK := Lib.hid (fun hp => exp_step (es := es) (now := now) (st := st) (k := k) (by rw [HX.out]; exact hlt) hp)
      have HSK := Lib.hid (fun hp => exp_skip (es := es) (now := now) (st := st) (k := k) (by rw [HX.out]; exact hlt) hp)
      have HOL : Hid (oldB now st (es.getD k e0) = decide (st ≤ now - (es.getD k e0).2.2)) := Lib.hid rfl
      generalize es.getD k e0 = E at *
      obtain ⟨⟨x0, x1, x2, x3, x4⟩, x5, x6⟩ := E
      dsimp only at d0 d1 d2 d3 d4 d5 d6
      have hn1 := inB_true.1 HNOW.out
      have hn2 := inB_true.1 HL6.out
      dsimp only at hn2
      have hw : IntKind.i64.wrap (now - x6) = now - x6 := IntWalk.i64_in _ (by omega)
      clear hn1 hn2
      by_cases hold : st ≤ now - x6
      · have HSK2 := Lib.hid (HSK.out (by rw [HOL.out]; exact decide_eq_true hold))
        have hd : decide (now - x6 < st) = false := by simp; omega
        clear hold
        go_wp2
        go_quiet (fail)
        go_wp2
        go_roundw
        case rel => exact ⟨k + 1, m, c', a', by omega, by go_num, below_drewN HB.out _, HT.out, HR.out, HE.out, HN.out, by rw [HSK2.out]; exact HO.out⟩
        case measure => simp [intOf]; omega
      · have HK2 := Lib.hid (HK.out (by rw [HOL.out]; exact decide_eq_false hold))
        have hd : decide (now - x6 < st) = true := by simp; omega
        clear hold
        go_wp2
        go_quiet (fail)
        go_wp2_with fail
        obtain ⟨wo, hwo⟩ : ∃ W, W = wr.drewN nq := ⟨_, rfl⟩
        have f0 : Below w.heap.size w wo := by rw [hwo]; exact below_drewN HB.out _
        have f1 : Box wo w.heap.size 30 [.int .i64 sz, .int .i64 st, .slice (some ⟨b, off, none⟩) n c2] := by rw [hwo]; exact HT.out.drewN _
        have f2 : Box wo (w.heap.size + 1) 30 [.int .i64 0, .int .i64 0, .slice none 0 0] := by rw [hwo]; exact HR.out.drewN _
        have f3 : Ents wo (some ⟨b, off, none⟩) es := by rw [hwo]; exact ints_drewN HE.out _
        have f4 : Box wo (w5.heap.size + 1) 30 [.int .i64 sz, .int .i64 st, .slice a' m c'] := by rw [hwo]; exact HN.out.drewN _
        have f5 : EntRow wo w5.heap.size a' m c' ((es.take k).filter (fun e => !oldB now st e)) := by rw [hwo]; exact row_drewN HO.out _
        have k0 : wo.cell? ⟨b, off + k * 7, none⟩ = some (.int .i64 x0) := by rw [hwo]; exact d0
        have k1 : wo.cell? ⟨b, off + k * 7 + 1, none⟩ = some (.int .i64 x1) := by rw [hwo]; exact d1
        have k2 : wo.cell? ⟨b, off + k * 7 + 2, none⟩ = some (.int .i64 x2) := by rw [hwo]; exact d2
        have k3 : wo.cell? ⟨b, off + k * 7 + 3, none⟩ = some (.int .i64 x3) := by rw [hwo]; exact d3
        have k4 : wo.cell? ⟨b, off + k * 7 + 4, none⟩ = some (.int .i64 x4) := by rw [hwo]; exact d4
        have k5 : wo.cell? ⟨b, off + k * 7 + 5, none⟩ = some (.int .i64 x5) := by rw [hwo]; exact d5
        have k6 : wo.cell? ⟨b, off + k * 7 + 6, none⟩ = some (.int .i64 x6) := by rw [hwo]; exact d6
        have F0 := Lib.hid f0
        have F1 := Lib.hid f1
        have F2 := Lib.hid f2
        have F3 := Lib.hid f3
        have F4 := Lib.hid f4
        have F5 := Lib.hid f5
        have HWO := Lib.hid hwo
        have hlN2 := f4.lt
        have hlT2 := f1.lt
        have hlb : b < wo.heap.size := World.block_lt_of_cell? _ _ k0
        obtain ⟨u0, u1, u2, fu⟩ := f4.three
        clear t0 t1 t2 ft d0 d1 d2 d3 d4 d5 d6 f0 f2 f3 f4 f5 HB HT HR HE HN HO u0 u1
        obtain ⟨t0, t1, t2, ft⟩ := f1.three
        clear t0 t1 ft f1 hwo hlN hb
        rw [← HWO.out]
        generalize (es.take k).filter (fun e => !oldB now st e) = ks at *
        have BV : Hid (Box (wo.alloc (.cells #[.int .i64 x0, .int .i64 x1, .int .i64 x2, .int .i64 x3, .int .i64 x4, .int .i64 x5, .int .i64 x6] 69)).drew wo.heap.size 69 [.int .i64 x0, .int .i64 x1, .int .i64 x2, .int .i64 x3, .int .i64 x4, .int .i64 x5, .int .i64 x6]) := Lib.hid (Box.new _ _ _).drew
        have OV : Hid ((wo.alloc (.cells #[.int .i64 x0, .int .i64 x1, .int .i64 x2, .int .i64 x3, .int .i64 x4, .int .i64 x5, .int .i64 x6] 69)).drew.ownsRow w5.heap.size 69 7 (.slice a' m c') m (eCells ks)) := Lib.hid (row_below F5.out ((Below.refl _ _).alloc (Nat.le_refl _) _).drew)
        have HAP : Hid (eCells ks ++ [.int .i64 x0, .int .i64 x1, .int .i64 x2, .int .i64 x3, .int .i64 x4, .int .i64 x5, .int .i64 x6] = eCells (ks ++ [((x0, x1, x2, x3, x4), x5, x6)])) := Lib.hid (by unfold eCells; rw [eInts_app, eInts_one, List.map_append]; rfl)
        have hz0 : w5.heap.size ≤ wo.heap.size := by omega
        go_region_law (first
            | (refine step_app' _ rfl elemEntry (.tmp 45) (.tmp 51) rfl w5.heap.size (.slice a' m c') m (eCells ks) rfl OV.out ⟨wo.heap.size, 0, none⟩ 1 1 [.int .i64 x0, .int .i64 x1, .int .i64 x2, .int .i64 x3, .int .i64 x4, .int .i64 x5, .int .i64 x6] rfl rfl (news_of BV.out) (one7 _ _ _ _ _ _ _) (by decide) (by omega) (Nat.le_trans hz0 (by simp)) (m + 1) rfl (eCells (ks ++ [((x0, x1, x2, x3, x4), x5, x6)])) HAP.out ?_
               intro g6 c6 w6 hown6 hgrow6 hat6 hlt6
               have HO6 := Lib.hid hown6
               have LO : ∀ q, (Value.slice a' m c').ownBlock = some q → w5.heap.size ≤ q := fun q hq => (OV.out.lt q hq).1
               have hzq : w.heap.size ≤ (wo.alloc (.cells #[.int .i64 x0, .int .i64 x1, .int .i64 x2, .int .i64 x3, .int .i64 x4, .int .i64 x5, .int .i64 x6] 69)).drew.heap.size := by show w.heap.size ≤ (wo.alloc (.cells #[.int .i64 x0, .int .i64 x1, .int .i64 x2, .int .i64 x3, .int .i64 x4, .int .i64 x5, .int .i64 x6] 69)).heap.size; simp; omega
               have HB6 := Lib.hid (((F0.out.alloc (by omega) (.cells #[.int .i64 x0, .int .i64 x1, .int .i64 x2, .int .i64 x3, .int .i64 x4, .int .i64 x5, .int .i64 x6] 69)).drew).grown hgrow6 hzq (fun q hq => by have := LO q hq; omega))
               have HT6 := Lib.hid ((F1.out.alloc (.cells #[.int .i64 x0, .int .i64 x1, .int .i64 x2, .int .i64 x3, .int .i64 x4, .int .i64 x5, .int .i64 x6] 69)).drew.kept hgrow6 (row_ne OV.out (F1.out.alloc (.cells #[.int .i64 x0, .int .i64 x1, .int .i64 x2, .int .i64 x3, .int .i64 x4, .int .i64 x5, .int .i64 x6] 69)).drew (by decide)))
               have HR6 := Lib.hid ((F2.out.alloc (.cells #[.int .i64 x0, .int .i64 x1, .int .i64 x2, .int .i64 x3, .int .i64 x4, .int .i64 x5, .int .i64 x6] 69)).drew.kept hgrow6 (row_ne OV.out (F2.out.alloc (.cells #[.int .i64 x0, .int .i64 x1, .int .i64 x2, .int .i64 x3, .int .i64 x4, .int .i64 x5, .int .i64 x6] 69)).drew (by decide)))
               have HE6 : Hid (Ents w6 (some ⟨b, off, none⟩) es) := Lib.hid (Ints.kept (F3.out.below ((Below.refl _ _).alloc (Nat.le_refl _) (.cells #[.int .i64 x0, .int .i64 x1, .int .i64 x2, .int .i64 x3, .int .i64 x4, .int .i64 x5, .int .i64 x6] 69)).drew) hgrow6 (fun p hp e => by cases hp; have := LO _ e.symm; simp at this; omega))
               have HN6 := Lib.hid ((F4.out.alloc (.cells #[.int .i64 x0, .int .i64 x1, .int .i64 x2, .int .i64 x3, .int .i64 x4, .int .i64 x5, .int .i64 x6] 69)).drew.kept hgrow6 (row_ne OV.out (F4.out.alloc (.cells #[.int .i64 x0, .int .i64 x1, .int .i64 x2, .int .i64 x3, .int .i64 x4, .int .i64 x5, .int .i64 x6] 69)).drew (by decide)))
               obtain ⟨v0, v1, v2, vf⟩ := HN6.out.three)
            | fail)
        all_goals
          go_wp2
          go_roundw
          case rel =>
            have hn1 : (Value.slice (some ⟨g6, 0, none⟩) (m + 1) c6).ownBlock ≠ some (w5.heap.size + 1) := row_ne HO6.out HN6.out (by decide)
            refine ⟨k + 1, m + 1, c6, some ⟨g6, 0, none⟩, by omega, by go_num, HB6.out.setCell (by simp; omega) _, HT6.out.other (by simp; omega) _, HR6.out.other (by simp; omega) _, ?_, HN6.out.set 2 _, ?_⟩
            · exact Ints.set HE6.out _ _ fun q hq => by cases hq; simp; omega
            · rw [HK2.out]; exact row_set HO6.out _ _ hn1
          case measure => simp [intOf]; omega
    · obtain rfl : k = n := by omega
      obtain ⟨u0, u1, u2, fu⟩ := HN.out.three
      obtain ⟨r0, r1, r2, fr⟩ := HR.out.three
      go_wp2
      refine bodyPost_ret (v := .agg #[.int .i64 sz, .int .i64 st, .slice a' m c']) (by simp [results, Try.results51, go_sem, r0, r1, r2]) rfl ?_
      rw [HQ2.out]
      have ho := HO.out
      rw [show es.take k = es from by rw [List.take_of_length_le (by rw [HX.out]; omega)]] at ho
      have hm := EntRow.len ho
      subst hm
      have hne := row_ne ho HR.out (by decide)
      refine ⟨a', c', rfl, row_wider (row_set (row_set (row_set ho _ _ hne) _ _ hne) _ _ hne) (by omega), below_grown ?_⟩
      have := HB.out
      go_grown
end Go.Proofs.Ytdkdfehlmphikaa
