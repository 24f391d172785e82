/- Texts laid together (TouC, OpA). No condition but what each theorem says. -/
import Derived.Test.YtdkdfehlmphikaaMC
import Derived.Test.YtdkdfehlmphikaaMG
import Derived.Test.YtdkdfehlmphikaaMB
/- TouchFlow of the program. No condition but lists of at most 2^20 entries. -/
namespace Go.Proofs.Ytdkdfehlmphikaa
open Go.RowKit
/-- The entries ahead of a flow's new one. -/
def restT (sz : Int) (es : List E7) (f : F5) : List E7 := if f ∈ es.map (·.1) then es.filter (fun e => !decide (e.1 = f)) else if (es.length : Int) = sz then es.drop 1 else es
/-- TouchFlow's arguments are valid. -/
def touchB (t : T3) (f : F5) (ho now : Int) : Bool := tv t.1 t.2.1 t.2.2 && fv f && inB ho 0 30 && fitB t.2.2 now
/-- A table after a packet. -/
def touchT (t : T3) (f : F5) (ho now : Int) : T3 × Bool := if touchB t f ho now = true then ((t.1, t.2.1, restT t.1 t.2.2 f ++ [(f, ho, now)]), true) else ((0, 0, []), false)
/-- A table and a bool are handed back, the list a new one. -/
def RetTB (w : World) (r : T3 × Bool) (e : Ending) (w' : World) : Prop :=
  ∃ (a : Option Addr) (cap : Nat), e = .returned (.tuple #[.agg #[.int .i64 r.1.1, .int .i64 r.1.2.1, .slice a r.1.2.2.length cap], .bool r.2]) ∧ w'.ownsRow w.heap.size 69 7 (.slice a r.1.2.2.length cap) r.1.2.2.length (eCells r.1.2.2) ∧ w.grownBy w' none
theorem retZeroB (w w' : World) (h : Below w.heap.size w w') : RetTB w ((0, 0, []), false) (.returned (.tuple #[.agg #[.int .i64 0, .int .i64 0, .slice none 0 0], .bool false])) w' :=
  ⟨none, 0, rfl, row_nil _ _ _ _, below_grown h⟩
theorem touch_zero {t : T3} {f : F5} {ho now : Int} (h : touchB t f ho now = false) : touchT t f ho now = ((0, 0, []), false) := by rw [touchT, h]; rfl
theorem eCells_one (f : F5) (x y : Int) : eCells [(f, x, y)] = [.int .i64 f.1, .int .i64 f.2.1, .int .i64 f.2.2.1, .int .i64 f.2.2.2.1, .int .i64 f.2.2.2.2, .int .i64 x, .int .i64 y] := rfl
theorem eCells_app (a b : List E7) : eCells a ++ eCells b = eCells (a ++ b) := by unfold eCells; rw [eInts_app, List.map_append]
theorem eCells_len (es : List E7) : (eCells es).length = es.length * 7 := by rw [List.length_map, eInts_len]
set_option maxRecDepth 100000 in
set_option maxHeartbeats 8000000 in
theorem c_TouchFlow (sz st : Int) (f : F5) (ho now : Int) (a : Option Addr) (n cap : Nat) (es : List E7) (w : World) (hxs : es.length = n) (hn : n ≤ 1048576) (h : Ents w a es) (ha : a = none → n = 0 ∧ cap = 0) :
    Calls Try.prog 45 #[.agg #[.int .i64 sz, .int .i64 st, .slice a n cap], fvv f, .int .i64 ho, .int .i64 now] w (RetTB w (touchT (sz, st, es) f ho now)) := by
  obtain ⟨y0, y1, y2, y3, y4⟩ := f
  unfold fvv
  obtain ⟨W, hW, gW, sW, bt, bf, br⟩ := head3 w 30 37 30 [.int .i64 sz, .int .i64 st, .slice a n cap] [.int .i64 y0, .int .i64 y1, .int .i64 y2, .int .i64 y3, .int .i64 y4] [.int .i64 0, .int .i64 0, .slice none 0 0]
  have HX := Lib.hid hxs
  have HW := Lib.hid hW
  have HB1 := Lib.hid gW
  have hz1 : w.heap.size + 3 ≤ W.heap.size := by omega
  have HA := Lib.hid ha
  have HE1 := Lib.hid (h.below gW)
  have HT1 := Lib.hid bt
  have HF1 := Lib.hid bf
  have HR1 := Lib.hid br
  have HQ : Hid (touchB (sz, st, es) (y0, y1, y2, y3, y4) ho now = (tv sz st es && fv (y0, y1, y2, y3, y4) && inB ho 0 30 && fitB es now)) := Lib.hid rfl
  clear hxs hW gW sW ha h bt bf br
  go_enter Try.func45, Try.ntmps45
  go_wp2_with fail
  rw [← HW.out]
  (with_reducible refine (c_TableValid sz st a n cap es _ HX.out hn HE1.out).mono ?_)
  rintro e w2 ⟨rfl, b2⟩
  have HB2 := Lib.hid (Below.step HB1.out b2 (by omega))
  have hz2 : w.heap.size + 3 ≤ w2.heap.size := by have := b2.size; omega
  have HT2 := Lib.hid (HT1.out.keep b2)
  have HF2 := Lib.hid (HF1.out.keep b2)
  have HR2 := Lib.hid (HR1.out.keep b2)
  have HE2 := Lib.hid (HE1.out.below b2)
  clear b2 HB1 HT1 HF1 HR1 HE1 hz1
  obtain ⟨t0, t1, t2, ft⟩ := HT2.out.three
  obtain ⟨r0, r1, r2, fr⟩ := HR2.out.three
  obtain ⟨f0, f1, f2, f3, f4, ff⟩ := HF2.out.five
  cases h1 : tv sz st es
  · have HZ := Lib.hid (touch_zero (HQ.out.trans (by simp [h1])))
    clear HQ
    go_wp2
    refine bodyPost_ret (v := .tuple #[.agg #[.int .i64 0, .int .i64 0, .slice none 0 0], .bool false]) (by simp [results, Try.results45, go_sem, r0, r1, r2]) rfl ?_
    rw [HZ.out]
    refine retZeroB w _ ?_
    have := HB2.out
    go_grown
  have HI1 := Lib.hid h1
  rw [h1, Bool.true_and] at HQ
  clear h1
  go_wp2_with fail
  (refine (c_FlowValid (y0, y1, y2, y3, y4) _).mono ?_)
  rintro e w3 ⟨rfl, b3⟩
  have HB3 := Lib.hid (Below.step HB2.out b3 (by omega))
  have hz3 : w.heap.size + 3 ≤ w3.heap.size := by have := b3.size; omega
  have HT3 := Lib.hid (HT2.out.keep b3)
  have HF3 := Lib.hid (HF2.out.keep b3)
  have HR3 := Lib.hid (HR2.out.keep b3)
  have HE3 := Lib.hid (HE2.out.below b3)
  clear b3 HB2 HT2 HF2 HR2 HE2 hz2 t0 t1 t2 ft r0 r1 r2 fr f0 f1 f2 f3 f4 ff
  obtain ⟨t0, t1, t2, ft⟩ := HT3.out.three
  obtain ⟨r0, r1, r2, fr⟩ := HR3.out.three
  obtain ⟨f0, f1, f2, f3, f4, ff⟩ := HF3.out.five
  cases h2 : fv (y0, y1, y2, y3, y4)
  · have HZ := Lib.hid (touch_zero (HQ.out.trans (by simp [h2])))
    clear HQ
    go_wp2
    refine bodyPost_ret (v := .tuple #[.agg #[.int .i64 0, .int .i64 0, .slice none 0 0], .bool false]) (by simp [results, Try.results45, go_sem, r0, r1, r2]) rfl ?_
    rw [HZ.out]
    refine retZeroB w _ ?_
    have := HB3.out
    go_grown
  rw [h2, Bool.true_and] at HQ
  clear h2
  go_wp2_with fail
  refine (c_in _ _ _ _).mono ?_; rintro e w' ⟨rfl, rfl⟩
  cases h3 : inB ho 0 30
  · have HZ := Lib.hid (touch_zero (HQ.out.trans (by simp [h3])))
    clear HQ
    go_wp2
    refine bodyPost_ret (v := .tuple #[.agg #[.int .i64 0, .int .i64 0, .slice none 0 0], .bool false]) (by simp [results, Try.results45, go_sem, r0, r1, r2]) rfl ?_
    rw [HZ.out]
    refine retZeroB w _ ?_
    have := HB3.out
    go_grown
  rw [h3, Bool.true_and] at HQ
  clear h3
  go_wp2_with fail
  (with_reducible refine (c_fits sz st now a n cap es _ HX.out hn HE3.out).mono ?_)
  rintro e w4 ⟨rfl, b4⟩
  have HB4 := Lib.hid (Below.step HB3.out b4 (by omega))
  have hz4 : w.heap.size + 3 ≤ w4.heap.size := by have := b4.size; omega
  have HT4 := Lib.hid (HT3.out.keep b4)
  have HF4 := Lib.hid (HF3.out.keep b4)
  have HR4 := Lib.hid (HR3.out.keep b4)
  have HE4 := Lib.hid (HE3.out.below b4)
  clear b4 HB3 HT3 HF3 HR3 HE3 hz3 t0 t1 t2 ft r0 r1 r2 fr f0 f1 f2 f3 f4 ff
  obtain ⟨t0, t1, t2, ft⟩ := HT4.out.three
  obtain ⟨r0, r1, r2, fr⟩ := HR4.out.three
  obtain ⟨f0, f1, f2, f3, f4, ff⟩ := HF4.out.five
  cases h4 : fitB es now
  · have HZ := Lib.hid (touch_zero (HQ.out.trans (by simp [h4])))
    clear HQ
    go_wp2
    refine bodyPost_ret (v := .tuple #[.agg #[.int .i64 0, .int .i64 0, .slice none 0 0], .bool false]) (by simp [results, Try.results45, go_sem, r0, r1, r2]) rfl ?_
    rw [HZ.out]
    refine retZeroB w _ ?_
    have := HB4.out
    go_grown
  have HQ2 : Hid (touchT (sz, st, es) (y0, y1, y2, y3, y4) ho now = ((sz, st, restT sz es (y0, y1, y2, y3, y4) ++ [((y0, y1, y2, y3, y4), ho, now)]), true)) := Lib.hid (by rw [touchT, if_pos (by rw [HQ.out]; exact h4)])
  clear HQ h4
  have hsz := inB_true.1 (tv_parts HI1.out).1
  have hnsz := (tv_parts HI1.out).2.2.1
  rw [HX.out] at hnsz
  go_wp2_with fail
  (with_reducible refine (c_clone sz st a n cap es _ HX.out hn HE4.out HA.out).mono ?_)
  rintro e w5 ⟨a5, c5, rfl, o5, g5⟩
  rw [HX.out] at o5 ⊢
  have HB5 := Lib.hid (Below.step HB4.out (grown_below g5) (by omega))
  have hz5 := g5.size
  have hz45 := hz4
  have HO5 := Lib.hid o5
  have LT5 := Lib.hid o5.lt
  have HF5 := Lib.hid (HF4.out.keep (grown_below g5))
  have HR5 := Lib.hid (HR4.out.keep (grown_below g5))
  clear o5 g5 t0 t1 t2 ft r0 r1 r2 fr f0 f1 f2 f3 f4 ff HT4 HF4 HR4 HE4 HB4
  obtain ⟨f0, f1, f2, f3, f4, ff⟩ := HF5.out.five
  have hl5 : w.heap.size + 1 < w5.heap.size := by omega
  go_wp2_with fail
  clear f0 f1 f2 f3 f4 ff hl5
  obtain ⟨W6, hW6, gW6, sW6, bn⟩ := head1 w5 30 [.int .i64 sz, .int .i64 st, .slice a5 n c5]
  have HW6 := Lib.hid hW6
  have HB6 := Lib.hid (Below.step HB5.out gW6 (by omega))
  have HS6 := Lib.hid sW6
  have HN6 := Lib.hid bn
  have HF6 := Lib.hid (HF5.out.keep gW6)
  have HR6 := Lib.hid (HR5.out.keep gW6)
  have HO6 : Hid (EntRow W6 w4.heap.size a5 n c5 es) := Lib.hid (row_below HO5.out gW6)
  clear hW6 gW6 sW6 bn HB5 HF5 HR5 HO5
  rw [← HW6.out]
  refine (c_find sz st (y0, y1, y2, y3, y4) a5 n c5 es _ HX.out hn HO6.out.ents).mono ?_
  rintro e w7 ⟨rfl, b7⟩
  have hz7 := b7.size
  rw [HS6.out] at hz7
  have HB7 := Lib.hid (Below.step HB6.out b7 (by rw [HS6.out]; omega))
  have HN7 := Lib.hid (HN6.out.keep b7)
  have HF7 := Lib.hid (HF6.out.keep b7)
  have HR7 := Lib.hid (HR6.out.keep b7)
  have HO7 : Hid (EntRow w7 w4.heap.size a5 n c5 es) := Lib.hid (row_below HO6.out b7)
  clear b7 HB6 HN6 HF6 HR6 HO6 HW6 HS6
  have hlr : w.heap.size + 2 < w7.heap.size := by omega
  have hlf : w.heap.size + 1 < w7.heap.size := by omega
  have hln : w5.heap.size < w7.heap.size := by omega
  rcases pOf_cases es (y0, y1, y2, y3, y4) with ⟨hno, hpo⟩ | ⟨hyes, k, hpo, hk, hkf, _⟩
  rotate_left
  · rw [hpo]
    have HRS : Hid (restT sz es (y0, y1, y2, y3, y4) = es.take k ++ es.drop (k + 1)) := Lib.hid (by rw [restT, if_pos hyes]; exact drop_at HI1.out hk hkf)
    rw [HRS.out] at HQ2
    have hk' : k < n := by rw [← HX.out]; exact hk
    clear hyes hpo hkf hk HRS
    obtain ⟨g5, rfl, hg5a, hg5b⟩ : ∃ g, a5 = some ⟨g, 0, none⟩ ∧ w4.heap.size ≤ g ∧ g < w5.heap.size := by
      obtain ⟨g, c, hv, h1, h2⟩ := HO7.out.form (by omega)
      injection hv with hv
      exact ⟨g, hv, h1, (LT5.out g (by rw [hv]; rfl)).2⟩
    obtain ⟨n0, n1, n2, fn⟩ := HN7.out.three
    have hi1 : IntKind.i64.wrap ((k : Int) + 1) = (k : Int) + 1 := IntWalk.i64_in _ (by omega)
    go_wp2_with fail
    refine (c_DelE w4.heap.size g5 n c5 k es _ hn hk' HO7.out).mono ?_
    rintro e w8 ⟨rfl, o8, g8⟩
    have hz8 := g8.size
    have HO8 := Lib.hid o8
    have HN8 := Lib.hid (HN7.out.kept g8 (by simp; omega))
    have HF8 := Lib.hid (HF7.out.kept g8 (by simp; omega))
    have HR8 := Lib.hid (HR7.out.kept g8 (by simp; omega))
    have HB8 := Lib.hid (HB7.out.grown g8 (by omega) (fun q hq => by cases hq; omega))
    clear o8 g8 n0 n1 n2 fn HO7 HN7 HF7 HR7 HB7 hlr hlf hln
    obtain ⟨n0, n1, n2, fn⟩ := HN8.out.three
    obtain ⟨f0, f1, f2, f3, f4, ff⟩ := HF8.out.five
    have hln : w5.heap.size < w8.heap.size := by omega
    have hlf : w.heap.size + 1 < w8.heap.size := by omega
    have hne5 : ¬ w.heap.size + 1 = w5.heap.size := by omega
    have hne6 : ¬ w5.heap.size = w.heap.size + 1 := by omega
    obtain ⟨W9, hW9⟩ : ∃ W9, W9 = ((w8.setCell ⟨w5.heap.size, 2, none⟩ (.slice (some ⟨g5, 0, none⟩) (n - 1) c5)).alloc (.cells #[.int .i64 y0, .int .i64 y1, .int .i64 y2, .int .i64 y3, .int .i64 y4, .int .i64 ho, .int .i64 now] 69)) := ⟨_, rfl⟩
    have HS9 : Hid (W9.heap.size = w8.heap.size + 1) := Lib.hid (by rw [hW9]; simp)
    have HN9 : Hid (Box W9 w5.heap.size 30 [.int .i64 sz, .int .i64 st, .slice (some ⟨g5, 0, none⟩) (n - 1) c5]) := Lib.hid (by rw [hW9]; exact (HN8.out.set 2 _).alloc _)
    have HR9 : Hid (Box W9 (w.heap.size + 2) 30 [.int .i64 0, .int .i64 0, .slice none 0 0]) := Lib.hid (by rw [hW9]; exact (HR8.out.other (by simp; omega) _).alloc _)
    have HB9 : Hid (Below w.heap.size w W9) := Lib.hid (by rw [hW9]; exact (HB8.out.setCell (by simp; omega) _).alloc (by simp; omega) _)
    have G9 : Hid (w8.grownBy W9 (some w5.heap.size)) := Lib.hid (by rw [hW9]; exact gb_al (gb_setp _ _ _) _)
    have BV9 : Hid (Box W9 w8.heap.size 69 [.int .i64 y0, .int .i64 y1, .int .i64 y2, .int .i64 y3, .int .i64 y4, .int .i64 ho, .int .i64 now]) := Lib.hid (by rw [hW9]; exact Box.new2 _ _ _ _ (by simp))
    have HW9 := Lib.hid hW9
    clear hW9
    obtain ⟨ks, hks⟩ : ∃ ks, ks = es.take k ++ es.drop (k + 1) ++ [((y0, y1, y2, y3, y4), ho, now)] := ⟨_, rfl⟩
    rw [← hks] at HQ2
    have HLEN : Hid (ks.length = n) := Lib.hid (by rw [hks, List.length_append, List.length_append, List.length_take, List.length_drop, HX.out]; simp only [List.length_cons, List.length_nil]; omega)
    have HKS := Lib.hid hks
    clear hks
    have HO9 : Hid (EntRow W9 w4.heap.size (some ⟨g5, 0, none⟩) (n - 1) c5 (es.take k ++ es.drop (k + 1))) := Lib.hid (row_kept HO8.out G9.out (fun q hq => by cases hq; simp; omega))
    go_wp2_with (at_builtin; rw [← HW9.out]; refine wpl_app _ rfl elemEntry (.tmp 57) (.tmp 62) rfl w4.heap.size (.slice (some ⟨g5, 0, none⟩) (n - 1) c5) (n - 1) _ rfl HO9.out ⟨w8.heap.size, 0, none⟩ 1 1 [.int .i64 y0, .int .i64 y1, .int .i64 y2, .int .i64 y3, .int .i64 y4, .int .i64 ho, .int .i64 now] rfl rfl (news_of BV9.out) (one7 _ _ _ _ _ _ _) (by decide) (by omega) (by rw [HS9.out]; omega) n (by omega) (eCells ks) (by rw [HKS.out]; exact eCells_app _ [((y0, y1, y2, y3, y4), ho, now)]) ?_)
    intro g10 c10 w10 o10 g10' hat hlt10
    have HV10 := Lib.hid (row_vals o10)
    have hz10 := g10'.size
    rw [HS9.out] at hz10
    have HN10 := Lib.hid (HN9.out.kept g10' (by simp [Value.ownBlock]; omega))
    have HR10 := Lib.hid (HR9.out.kept g10' (by simp [Value.ownBlock]; omega))
    have HB10 := Lib.hid (HB9.out.grown g10' (by rw [HS9.out]; omega) (fun q hq => by simp [Value.ownBlock] at hq; omega))
    have hab : g10 ≠ w5.heap.size := by
      have hs9 := HS9.out
      rcases hat with h | h
      · simp [Value.ownBlock] at h; omega
      · omega
    clear o10 g10' hat n0 n1 n2 fn f0 f1 f2 f3 f4 ff HO9 HW9 HN9 HR9 HB9 G9 HO8 HN8 HF8 HR8 HB8 BV9
    clear hln hlf hne5 hne6
    obtain ⟨n0, n1, n2, fn⟩ := HN10.out.three
    have hln : w5.heap.size < w10.heap.size := HN10.out.lt
    go_wp2_with fail
    obtain ⟨W11, hW11⟩ : ∃ W11, W11 = w10.setCell ⟨w5.heap.size, 2, none⟩ (.slice (some ⟨g10, 0, none⟩) n c10) := ⟨_, rfl⟩
    have HW11 := Lib.hid hW11
    have HR11 : Hid (Box W11 (w.heap.size + 2) 30 [.int .i64 0, .int .i64 0, .slice none 0 0]) := Lib.hid (by rw [hW11]; exact HR10.out.other (by simp; omega) _)
    have HB11 : Hid (Below w.heap.size w W11) := Lib.hid (by rw [hW11]; exact HB10.out.setCell (by simp; omega) _)
    have HE11 : Hid (Ents W11 (some ⟨g10, 0, none⟩) ks) := Lib.hid (by
      rw [hW11]
      refine Ints.set (Vals.ints HV10.out) _ _ fun q hq => ?_
      cases hq
      simpa using hab)
    have hz11 : W11.heap.size = w10.heap.size := by rw [hW11]; simp
    clear hW11 n0 n1 n2 fn HR10 HB10 HN10
    rw [← HW11.out]
    (with_reducible refine (c_clone sz st (some ⟨g10, 0, none⟩) n c10 _ _ HLEN.out (by omega) HE11.out (fun e => by cases e)).mono ?_)
    rintro e w12 ⟨a12, c12, rfl, o12, g12⟩
    rw [HLEN.out] at o12 ⊢
    have HO12 := Lib.hid o12
    have HB12 := Lib.hid (Below.step HB11.out (grown_below g12) (by omega))
    obtain ⟨r0, r1, r2, fr⟩ := (HR11.out.keep (grown_below g12)).three
    clear o12 g12
    go_wp2
    refine bodyPost_ret (v := .tuple #[.agg #[.int .i64 sz, .int .i64 st, .slice a12 n c12], .bool true]) (by simp [results, Try.results45, go_sem, r0, r1, r2]) rfl ?_
    rw [HQ2.out]
    have HO13 := HO12.out
    have hb7 := HB12.out
    unfold RetTB
    simp only [HLEN.out]
    have hne : (Value.slice a12 _ c12).ownBlock ≠ some (w.heap.size + 2) := fun e => by have := (HO13.lt _ e).1; omega
    refine ⟨a12, c12, rfl, row_wider (row_set (row_set (row_set HO13 _ _ hne) _ _ hne) _ _ hne) (by omega), below_grown ?_⟩
    go_grown
  rw [hpo]
  have hz8 : w7.heap.size ≤ w7.heap.size := Nat.le_refl _
  have hkm : ¬ (0 : Int) ≤ -1 := by omega
  obtain ⟨f0, f1, f2, f3, f4, ff⟩ := HF7.out.five
  by_cases hfull : (n : Int) = sz
  · have HRS : Hid (restT sz es (y0, y1, y2, y3, y4) = es.drop 1) := Lib.hid (by rw [restT, if_neg hno, if_pos (by rw [HX.out]; exact hfull)])
    rw [HRS.out] at HQ2
    have hn1 : 1 ≤ n := by omega
    obtain ⟨g5, rfl, hg5a, hg5b⟩ : ∃ g, a5 = some ⟨g, 0, none⟩ ∧ w4.heap.size ≤ g ∧ g < w5.heap.size := by
      obtain ⟨g, c, hv, h1, h2⟩ := HO7.out.form (by omega)
      injection hv with hv
      exact ⟨g, hv, h1, (LT5.out g (by rw [hv]; rfl)).2⟩
    clear hno hpo HRS
    obtain ⟨n0, n1, n2, fn⟩ := HN7.out.three
    have hcp := (row_cap HO7.out).1
    have hs1 : (1 : Int) ≤ (n : Int) := by omega
    have hs2 : (1 : Int) ≤ (c5 : Int) := by omega
    have hs3 : 1 ≤ c5 := by omega
    obtain ⟨ks, hks⟩ : ∃ ks, ks = es.drop 1 ++ [((y0, y1, y2, y3, y4), ho, now)] := ⟨_, rfl⟩
    rw [← hks] at HQ2
    have HLEN : Hid (ks.length = n) := Lib.hid (by rw [hks, List.length_append, List.length_drop, HX.out]; simp only [List.length_cons, List.length_nil]; omega)
    have HKS := Lib.hid hks
    clear hks
    have HDL : Hid ((eCells (es.drop 1)).length = (n - 1) * 7) := Lib.hid (by rw [eCells_len, List.length_drop, HX.out])
    have hne5 : ¬ w.heap.size + 1 = w5.heap.size := by omega
    have hne6 : ¬ w5.heap.size = w.heap.size + 1 := by omega
    by_cases hc1 : c5 = 1
    · obtain rfl : n = 1 := by omega
      subst hc1
      have HNIL : Hid (eCells (es.drop 1) = []) := Lib.hid (List.eq_nil_of_length_eq_zero HDL.out)
      obtain ⟨W9, hW9⟩ : ∃ W9, W9 = ((w7.setCell ⟨w5.heap.size, 2, none⟩ (.slice (some ⟨g5, 0, none⟩) 0 0)).alloc (.cells #[.int .i64 y0, .int .i64 y1, .int .i64 y2, .int .i64 y3, .int .i64 y4, .int .i64 ho, .int .i64 now] 69)) := ⟨_, rfl⟩
      have HS9 : Hid (W9.heap.size = w7.heap.size + 1) := Lib.hid (by rw [hW9]; simp)
      have HN9 : Hid (Box W9 w5.heap.size 30 [.int .i64 sz, .int .i64 st, .slice (some ⟨g5, 0, none⟩) 0 0]) := Lib.hid (by rw [hW9]; exact (HN7.out.set 2 _).alloc _)
      have HR9 : Hid (Box W9 (w.heap.size + 2) 30 [.int .i64 0, .int .i64 0, .slice none 0 0]) := Lib.hid (by rw [hW9]; exact (HR7.out.other (by simp; omega) _).alloc _)
      have HB9 : Hid (Below w.heap.size w W9) := Lib.hid (by rw [hW9]; exact (HB7.out.setCell (by simp; omega) _).alloc (by simp; omega) _)
      have G9 : Hid (w7.grownBy W9 (some w5.heap.size)) := Lib.hid (by rw [hW9]; exact gb_al (gb_setp _ _ _) _)
      have BV9 : Hid (Box W9 w7.heap.size 69 [.int .i64 y0, .int .i64 y1, .int .i64 y2, .int .i64 y3, .int .i64 y4, .int .i64 ho, .int .i64 now]) := Lib.hid (by rw [hW9]; exact Box.new2 _ _ _ _ (by simp))
      have HW9 := Lib.hid hW9
      clear hW9
      have hg9 : g5 < W9.heap.size := by rw [HS9.out]; omega
      go_wp2_with (at_builtin; rw [← HW9.out]; refine wpl_appO _ rfl elemEntry (.tmp 57) (.tmp 62) rfl g5 0 0 0 (eCells (es.drop 1)) rfl HDL.out hg9 (fun j u hu => by rw [HNIL.out] at hu; simp at hu) (fun h => by omega) ⟨w7.heap.size, 0, none⟩ 1 [.int .i64 y0, .int .i64 y1, .int .i64 y2, .int .i64 y3, .int .i64 y4, .int .i64 ho, .int .i64 now] rfl rfl (news_of BV9.out) (one7 _ _ _ _ _ _ _) (by omega) 1 (by omega) (eCells ks) (by rw [HKS.out]; exact eCells_app _ [((y0, y1, y2, y3, y4), ho, now)]) ?_)
      intro a10 c10 w10 v10 g10' hat
      have HV10 := Lib.hid v10
      have hz10 := g10'.size
      rw [HS9.out] at hz10
      have HN10 := Lib.hid (HN9.out.kept g10' (by simp; omega))
      have HR10 := Lib.hid (HR9.out.kept g10' (by simp; omega))
      have HB10 := Lib.hid (HB9.out.grown g10' (by rw [HS9.out]; omega) (fun q hq => by cases hq; omega))
      have hab : a10.block ≠ w5.heap.size := by
        have hs9 := HS9.out
        rcases hat with h | h <;> omega
      clear v10 g10' hat n0 n1 n2 fn f0 f1 f2 f3 f4 ff HW9 HN9 HR9 HB9 G9 HO7 HN7 HF7 HR7 HB7 BV9
      clear hln hlf hlr hne5 hne6
      obtain ⟨n0, n1, n2, fn⟩ := HN10.out.three
      have hln : w5.heap.size < w10.heap.size := HN10.out.lt
      go_wp2_with fail
      obtain ⟨W11, hW11⟩ : ∃ W11, W11 = w10.setCell ⟨w5.heap.size, 2, none⟩ (.slice (some a10) 1 c10) := ⟨_, rfl⟩
      have HW11 := Lib.hid hW11
      have HR11 : Hid (Box W11 (w.heap.size + 2) 30 [.int .i64 0, .int .i64 0, .slice none 0 0]) := Lib.hid (by rw [hW11]; exact HR10.out.other (by simp; omega) _)
      have HB11 : Hid (Below w.heap.size w W11) := Lib.hid (by rw [hW11]; exact HB10.out.setCell (by simp; omega) _)
      have HE11 : Hid (Ents W11 (some a10) ks) := Lib.hid (by
        rw [hW11]
        refine Ints.set (Vals.ints HV10.out) _ _ fun q hq => ?_
        cases hq
        simpa using hab)
      have hz11 : W11.heap.size = w10.heap.size := by rw [hW11]; simp
      clear hW11 n0 n1 n2 fn HR10 HB10 HN10
      rw [← HW11.out]
      (with_reducible refine (c_clone sz st (some a10) 1 c10 _ _ HLEN.out (by omega) HE11.out (fun e => by cases e)).mono ?_)
      rintro e w12 ⟨a12, c12, rfl, o12, g12⟩
      rw [HLEN.out] at o12 ⊢
      have HO12 := Lib.hid o12
      have HB12 := Lib.hid (Below.step HB11.out (grown_below g12) (by omega))
      obtain ⟨r0, r1, r2, fr⟩ := (HR11.out.keep (grown_below g12)).three
      clear o12 g12
      go_wp2
      refine bodyPost_ret (v := .tuple #[.agg #[.int .i64 sz, .int .i64 st, .slice a12 1 c12], .bool true]) (by simp [results, Try.results45, go_sem, r0, r1, r2]) rfl ?_
      rw [HQ2.out]
      have HO13 := HO12.out
      have hb7 := HB12.out
      unfold RetTB
      simp only [HLEN.out]
      have hne : (Value.slice a12 _ c12).ownBlock ≠ some (w.heap.size + 2) := fun e => by have := (HO13.lt _ e).1; omega
      refine ⟨a12, c12, rfl, row_wider (row_set (row_set (row_set HO13 _ _ hne) _ _ hne) _ _ hne) (by omega), below_grown ?_⟩
      go_grown
    · have hc2 : ¬ 1 = c5 := fun e => hc1 e.symm
      have hc3 : ¬ (c5 : Int) = 1 := by omega
      obtain ⟨W9, hW9⟩ : ∃ W9, W9 = ((w7.setCell ⟨w5.heap.size, 2, none⟩ (.slice (some ⟨g5, 7, none⟩) (n - 1) (c5 - 1))).alloc (.cells #[.int .i64 y0, .int .i64 y1, .int .i64 y2, .int .i64 y3, .int .i64 y4, .int .i64 ho, .int .i64 now] 69)) := ⟨_, rfl⟩
      have HS9 : Hid (W9.heap.size = w7.heap.size + 1) := Lib.hid (by rw [hW9]; simp)
      have HN9 : Hid (Box W9 w5.heap.size 30 [.int .i64 sz, .int .i64 st, .slice (some ⟨g5, 7, none⟩) (n - 1) (c5 - 1)]) := Lib.hid (by rw [hW9]; exact (HN7.out.set 2 _).alloc _)
      have HR9 : Hid (Box W9 (w.heap.size + 2) 30 [.int .i64 0, .int .i64 0, .slice none 0 0]) := Lib.hid (by rw [hW9]; exact (HR7.out.other (by simp; omega) _).alloc _)
      have HB9 : Hid (Below w.heap.size w W9) := Lib.hid (by rw [hW9]; exact (HB7.out.setCell (by simp; omega) _).alloc (by simp; omega) _)
      have G9 : Hid (w7.grownBy W9 (some w5.heap.size)) := Lib.hid (by rw [hW9]; exact gb_al (gb_setp _ _ _) _)
      have BV9 : Hid (Box W9 w7.heap.size 69 [.int .i64 y0, .int .i64 y1, .int .i64 y2, .int .i64 y3, .int .i64 y4, .int .i64 ho, .int .i64 now]) := Lib.hid (by rw [hW9]; exact Box.new2 _ _ _ _ (by simp))
      have HW9 := Lib.hid hW9
      clear hW9
      have HO9 : Hid (EntRow W9 w4.heap.size (some ⟨g5, 0, none⟩) n c5 es) := Lib.hid (row_kept HO7.out G9.out (fun q hq => by cases hq; simp; omega))
      have HC9 : Hid (∀ j u, (eCells (es.drop 1))[j]? = some u → W9.cell? ⟨g5, 7 + j, none⟩ = some u) := Lib.hid (fun j u hu => by
        have hj := (List.getElem?_eq_some_iff.1 hu).1
        rw [HDL.out] at hj
        have hrl := row_len HO9.out
        rw [HO9.out.cellAt (7 + j) (by omega), ← hu]
        unfold eCells
        rw [eInts_drop, List.map_drop, List.getElem?_drop])
      have HSP9 : Hid (n - 1 < c5 - 1 → ∀ j, j < 7 → (W9.cell? ⟨g5, 7 + (n - 1) * 7 + j, none⟩).isSome = true ∧ W9.frozen? ⟨g5, 7 + (n - 1) * 7 + j, none⟩ = false) := Lib.hid (fun hlt j hj => ⟨row_spare HO9.out (7 + (n - 1) * 7 + j) (by omega), HO9.out.frozenAt _⟩)
      have hg9 : g5 < W9.heap.size := by rw [HS9.out]; omega
      go_wp2_with (at_builtin; rw [← HW9.out]; refine wpl_appO _ rfl elemEntry (.tmp 57) (.tmp 62) rfl g5 7 (n - 1) (c5 - 1) (eCells (es.drop 1)) rfl HDL.out hg9 HC9.out HSP9.out ⟨w7.heap.size, 0, none⟩ 1 [.int .i64 y0, .int .i64 y1, .int .i64 y2, .int .i64 y3, .int .i64 y4, .int .i64 ho, .int .i64 now] rfl rfl (news_of BV9.out) (one7 _ _ _ _ _ _ _) (by omega) n (by omega) (eCells ks) (by rw [HKS.out]; exact eCells_app _ [((y0, y1, y2, y3, y4), ho, now)]) ?_)
      intro a10 c10 w10 v10 g10' hat
      have HV10 := Lib.hid v10
      have hz10 := g10'.size
      rw [HS9.out] at hz10
      have HN10 := Lib.hid (HN9.out.kept g10' (by simp; omega))
      have HR10 := Lib.hid (HR9.out.kept g10' (by simp; omega))
      have HB10 := Lib.hid (HB9.out.grown g10' (by rw [HS9.out]; omega) (fun q hq => by cases hq; omega))
      have hab : a10.block ≠ w5.heap.size := by
        have hs9 := HS9.out
        rcases hat with h | h <;> omega
      clear v10 g10' hat n0 n1 n2 fn f0 f1 f2 f3 f4 ff HW9 HN9 HR9 HB9 G9 HO7 HN7 HF7 HR7 HB7 BV9
      clear hln hlf hlr hne5 hne6
      obtain ⟨n0, n1, n2, fn⟩ := HN10.out.three
      have hln : w5.heap.size < w10.heap.size := HN10.out.lt
      go_wp2_with fail
      obtain ⟨W11, hW11⟩ : ∃ W11, W11 = w10.setCell ⟨w5.heap.size, 2, none⟩ (.slice (some a10) n c10) := ⟨_, rfl⟩
      have HW11 := Lib.hid hW11
      have HR11 : Hid (Box W11 (w.heap.size + 2) 30 [.int .i64 0, .int .i64 0, .slice none 0 0]) := Lib.hid (by rw [hW11]; exact HR10.out.other (by simp; omega) _)
      have HB11 : Hid (Below w.heap.size w W11) := Lib.hid (by rw [hW11]; exact HB10.out.setCell (by simp; omega) _)
      have HE11 : Hid (Ents W11 (some a10) ks) := Lib.hid (by
        rw [hW11]
        refine Ints.set (Vals.ints HV10.out) _ _ fun q hq => ?_
        cases hq
        simpa using hab)
      have hz11 : W11.heap.size = w10.heap.size := by rw [hW11]; simp
      clear hW11 n0 n1 n2 fn HR10 HB10 HN10
      rw [← HW11.out]
      (with_reducible refine (c_clone sz st (some a10) n c10 _ _ HLEN.out (by omega) HE11.out (fun e => by cases e)).mono ?_)
      rintro e w12 ⟨a12, c12, rfl, o12, g12⟩
      rw [HLEN.out] at o12 ⊢
      have HO12 := Lib.hid o12
      have HB12 := Lib.hid (Below.step HB11.out (grown_below g12) (by omega))
      obtain ⟨r0, r1, r2, fr⟩ := (HR11.out.keep (grown_below g12)).three
      clear o12 g12
      go_wp2
      refine bodyPost_ret (v := .tuple #[.agg #[.int .i64 sz, .int .i64 st, .slice a12 n c12], .bool true]) (by simp [results, Try.results45, go_sem, r0, r1, r2]) rfl ?_
      rw [HQ2.out]
      have HO13 := HO12.out
      have hb7 := HB12.out
      unfold RetTB
      simp only [HLEN.out]
      have hne : (Value.slice a12 _ c12).ownBlock ≠ some (w.heap.size + 2) := fun e => by have := (HO13.lt _ e).1; omega
      refine ⟨a12, c12, rfl, row_wider (row_set (row_set (row_set HO13 _ _ hne) _ _ hne) _ _ hne) (by omega), below_grown ?_⟩
      go_grown
  · have HRS : Hid (restT sz es (y0, y1, y2, y3, y4) = es) := Lib.hid (by rw [restT, if_neg hno, if_neg (by rw [HX.out]; exact hfull)])
    rw [HRS.out] at HQ2
    clear hno hpo HRS
    obtain ⟨n0, n1, n2, fn⟩ := HN7.out.three
    obtain ⟨ks, hks⟩ : ∃ ks, ks = es ++ [((y0, y1, y2, y3, y4), ho, now)] := ⟨_, rfl⟩
    rw [← hks] at HQ2
    have HLEN : Hid (ks.length = n + 1) := Lib.hid (by rw [hks, List.length_append, HX.out]; rfl)
    have HKS := Lib.hid hks
    clear hks
    obtain ⟨W9, hW9⟩ : ∃ W9, W9 = (w7.alloc (.cells #[.int .i64 y0, .int .i64 y1, .int .i64 y2, .int .i64 y3, .int .i64 y4, .int .i64 ho, .int .i64 now] 69)) := ⟨_, rfl⟩
    have HS9 : Hid (W9.heap.size = w7.heap.size + 1) := Lib.hid (by rw [hW9]; simp)
    have HN9 : Hid (Box W9 w5.heap.size 30 [.int .i64 sz, .int .i64 st, .slice a5 n c5]) := Lib.hid (by rw [hW9]; exact HN7.out.alloc _)
    have HR9 : Hid (Box W9 (w.heap.size + 2) 30 [.int .i64 0, .int .i64 0, .slice none 0 0]) := Lib.hid (by rw [hW9]; exact HR7.out.alloc _)
    have HB9 : Hid (Below w.heap.size w W9) := Lib.hid (by rw [hW9]; exact HB7.out.alloc (by omega) _)
    have G9 : Hid (w7.grownBy W9 (some w5.heap.size)) := Lib.hid (by rw [hW9]; exact gb_al (World.grownBy.refl _ _) _)
    have BV9 : Hid (Box W9 w7.heap.size 69 [.int .i64 y0, .int .i64 y1, .int .i64 y2, .int .i64 y3, .int .i64 y4, .int .i64 ho, .int .i64 now]) := Lib.hid (by rw [hW9]; exact Box.new2 _ _ _ _ (by simp))
    have HW9 := Lib.hid hW9
    clear hW9
    have HO9 : Hid (EntRow W9 w4.heap.size a5 n c5 es) := Lib.hid (row_kept HO7.out G9.out (fun q hq e => by have := (LT5.out q hq).2; injection e; omega))
    go_wp2_with (at_builtin; rw [← HW9.out]; refine wpl_app _ rfl elemEntry (.tmp 57) (.tmp 62) rfl w4.heap.size (.slice a5 n c5) n _ rfl HO9.out ⟨w7.heap.size, 0, none⟩ 1 1 [.int .i64 y0, .int .i64 y1, .int .i64 y2, .int .i64 y3, .int .i64 y4, .int .i64 ho, .int .i64 now] rfl rfl (news_of BV9.out) (one7 _ _ _ _ _ _ _) (by decide) (by omega) (by rw [HS9.out]; omega) (n + 1) rfl (eCells ks) (by rw [HKS.out]; exact eCells_app _ [((y0, y1, y2, y3, y4), ho, now)]) ?_)
    intro g10 c10 w10 o10 g10' hat hlt10
    have HV10 := Lib.hid (row_vals o10)
    have hz10 := g10'.size
    rw [HS9.out] at hz10
    have hlt5 := LT5.out
    have HN10 := Lib.hid (HN9.out.kept g10' (fun e => by have := hlt5 _ e; omega))
    have HR10 := Lib.hid (HR9.out.kept g10' (fun e => by have := hlt5 _ e; omega))
    have HB10 := Lib.hid (HB9.out.grown g10' (by rw [HS9.out]; omega) (fun q hq => by have := hlt5 _ hq; omega))
    have hab : g10 ≠ w5.heap.size := by
      have hs9 := HS9.out
      rcases hat with h | h
      · have := hlt5 _ h; omega
      · omega
    clear o10 g10' hat n0 n1 n2 fn f0 f1 f2 f3 f4 ff HO9 HW9 HN9 HR9 HB9 G9 HO7 HN7 HF7 HR7 HB7 BV9
    clear hln hlf hlr hlt5
    obtain ⟨n0, n1, n2, fn⟩ := HN10.out.three
    have hln : w5.heap.size < w10.heap.size := HN10.out.lt
    go_wp2_with fail
    obtain ⟨W11, hW11⟩ : ∃ W11, W11 = w10.setCell ⟨w5.heap.size, 2, none⟩ (.slice (some ⟨g10, 0, none⟩) (n + 1) c10) := ⟨_, rfl⟩
    have HW11 := Lib.hid hW11
    have HR11 : Hid (Box W11 (w.heap.size + 2) 30 [.int .i64 0, .int .i64 0, .slice none 0 0]) := Lib.hid (by rw [hW11]; exact HR10.out.other (by simp; omega) _)
    have HB11 : Hid (Below w.heap.size w W11) := Lib.hid (by rw [hW11]; exact HB10.out.setCell (by simp; omega) _)
    have HE11 : Hid (Ents W11 (some ⟨g10, 0, none⟩) ks) := Lib.hid (by
      rw [hW11]
      refine Ints.set (Vals.ints HV10.out) _ _ fun q hq => ?_
      cases hq
      simpa using hab)
    have hz11 : W11.heap.size = w10.heap.size := by rw [hW11]; simp
    clear hW11 n0 n1 n2 fn HR10 HB10 HN10
    rw [← HW11.out]
    (with_reducible refine (c_clone sz st (some ⟨g10, 0, none⟩) (n + 1) c10 _ _ HLEN.out (by omega) HE11.out (fun e => by cases e)).mono ?_)
    rintro e w12 ⟨a12, c12, rfl, o12, g12⟩
    rw [HLEN.out] at o12 ⊢
    have HO12 := Lib.hid o12
    have HB12 := Lib.hid (Below.step HB11.out (grown_below g12) (by omega))
    obtain ⟨r0, r1, r2, fr⟩ := (HR11.out.keep (grown_below g12)).three
    clear o12 g12
    go_wp2
    refine bodyPost_ret (v := .tuple #[.agg #[.int .i64 sz, .int .i64 st, .slice a12 (n + 1) c12], .bool true]) (by simp [results, Try.results45, go_sem, r0, r1, r2]) rfl ?_
    rw [HQ2.out]
    have HO13 := HO12.out
    have hb7 := HB12.out
    unfold RetTB
    simp only [HLEN.out]
    have hne : (Value.slice a12 _ c12).ownBlock ≠ some (w.heap.size + 2) := fun e => by have := (HO13.lt _ e).1; omega
    refine ⟨a12, c12, rfl, row_wider (row_set (row_set (row_set HO13 _ _ hne) _ _ hne) _ _ hne) (by omega), below_grown ?_⟩
    go_grown
end Go.Proofs.Ytdkdfehlmphikaa
/- Single operations of drawn regions, run: calls, loads of structs, new boxes. No condition. -/
namespace Go.Proofs.Ytdkdfehlmphikaa
open Go.RowKit
theorem run_callL (o : Oper) (ρ : Operand → Value) (w : World) (F : FuncId) (xs : Array Operand) (ts : Array TypeId) (vals : Array Value) (ho : o.op = .call { callee := .value (.func F), args := xs, argTypes := ts })
    (hf : ρ (.func F) = .func (.func F) #[] #[]) (hv : xs.map ρ = vals) (eg : ∀ args w, (callFunc F args).run Try.prog w = .ok (.enter F args) w) : (execOp ρ o).run Try.prog w = .ok (.enter F vals) w := by
  subst hv
  simp [execOp, ho, hf, resolve, invoke, eg, go_sem]
theorem run_ldTl (o : Oper) (ρ : Operand → Value) (w : World) (x : Operand) (b : Nat) (u v t : Value) (ho : o.op = .load 45 x) (hx : ρ x = .pointer (some ⟨b, 0, none⟩)) (hb : Box w b 45 [u, v, t]) :
    (execOp ρ o).run Try.prog w = .ok (.value (.agg #[u, v, t])) w := by
  obtain ⟨c0, c1, c2, _⟩ := hb.three
  simp [execOp, ho, hx, c0, c1, c2, go_sem]
theorem run_ldTi (o : Oper) (ρ : Operand → Value) (w : World) (x : Operand) (b : Nat) (u v t : Value) (ho : o.op = .load 30 x) (hx : ρ x = .pointer (some ⟨b, 0, none⟩)) (hb : Box w b 30 [u, v, t]) :
    (execOp ρ o).run Try.prog w = .ok (.value (.agg #[u, v, t])) w := by
  obtain ⟨c0, c1, c2, _⟩ := hb.three
  simp [execOp, ho, hx, c0, c1, c2, go_sem]
theorem run_ldFl (o : Oper) (ρ : Operand → Value) (w : World) (x : Operand) (b : Nat) (c0 c1 c2 c3 c4 : Value) (ho : o.op = .load 46 x) (hx : ρ x = .pointer (some ⟨b, 0, none⟩)) (hb : Box w b 46 [c0, c1, c2, c3, c4]) :
    (execOp ρ o).run Try.prog w = .ok (.value (.agg #[c0, c1, c2, c3, c4])) w := by
  obtain ⟨h0, h1, h2, h3, h4, _⟩ := hb.five
  simp [execOp, ho, hx, h0, h1, h2, h3, h4, go_sem]
theorem run_ldFi (o : Oper) (ρ : Operand → Value) (w : World) (x : Operand) (b : Nat) (c0 c1 c2 c3 c4 : Value) (ho : o.op = .load 37 x) (hx : ρ x = .pointer (some ⟨b, 0, none⟩)) (hb : Box w b 37 [c0, c1, c2, c3, c4]) :
    (execOp ρ o).run Try.prog w = .ok (.value (.agg #[c0, c1, c2, c3, c4])) w := by
  obtain ⟨h0, h1, h2, h3, h4, _⟩ := hb.five
  simp [execOp, ho, hx, h0, h1, h2, h3, h4, go_sem]
theorem run_alTi (o : Oper) (ρ : Operand → Value) (w : World) (ho : o.op = .alloc 30) :
    (execOp ρ o).run Try.prog w = .ok (.value (.pointer (some ⟨w.heap.size, 0, none⟩))) (w.alloc (.cells [Value.int .i64 0, .int .i64 0, .slice none 0 0].toArray 30)) := by
  simp [execOp, ho, go_sem]
theorem run_mv (o : Oper) (ρ : Operand → Value) (w : World) (x : Operand) (v : Value) (hx : ρ x = v) : (o.op = .move x → (execOp ρ o).run Try.prog w = .ok (.value v) w) ∧ (o.op = .assign x → (execOp ρ o).run Try.prog w = .ok (.value v) w) := by
  refine ⟨fun ho => ?_, fun ho => ?_⟩ <;> simp [execOp, ho, hx, go_sem]
end Go.Proofs.Ytdkdfehlmphikaa
