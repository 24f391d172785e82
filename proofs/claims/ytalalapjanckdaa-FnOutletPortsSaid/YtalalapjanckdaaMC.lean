/- Texts laid together (OutS, OutT, OutY, OutZ). No condition but what each theorem says. -/
import Derived.Test.YtalalapjanckdaaMB
import Derived.Deep.DeepCutAuto
/- CloseOut of the program and of the reference. No condition but lists of at most 2^20 flows. -/
namespace Go.Proofs.Ytalalapjanckdaa
open Go.RowKit
/-- An outlet: outside, first, slots. -/
abbrev O3 := Int × Int × List F5
/-- An outlet without a flow. -/
def closeT (t : O3) (f : F5) : O3 := if ov t.1 t.2.1 t.2.2 = true then (t.1, t.2.1, if 0 ≤ qOf t.2.2 f then t.2.2.set (qOf t.2.2 f).toNat z5 else t.2.2) else (0, 0, [])
/-- An outlet is handed back, its list a new one. -/
def RetO (w : World) (t : O3) (e : Ending) (w' : World) : Prop := RetOut w t.1 t.2.1 t.2.2 e w'
theorem retZeroO (w w' : World) (h : Below w.heap.size w w') : RetO w (0, 0, []) (.returned (.agg #[.int .i64 0, .int .i64 0, .slice none 0 0])) w' :=
  ⟨none, 0, rfl, row_nil _ _ _ _, below_grown h⟩
set_option maxRecDepth 100000 in
set_option maxHeartbeats 4000000 in
theorem c_CloseOut (oo rr : Int) (f : F5) (a : Option Addr) (n cap : Nat) (fs : List F5) (w : World) (hxs : fs.length = n) (hn : n ≤ 1048576) (h : Flws w a fs) (ha : a = none → n = 0 ∧ cap = 0) :
    Calls Try.prog 20 #[.agg #[.int .i64 oo, .int .i64 rr, .slice a n cap], fvv f] w (RetO w (closeT (oo, rr, fs) f)) := by
  obtain ⟨y0, y1, y2, y3, y4⟩ := f
  unfold fvv
  obtain ⟨W, hW, gW, sW, bt, bf, br⟩ := head3 w 25 27 25 [.int .i64 oo, .int .i64 rr, .slice a n cap] [.int .i64 y0, .int .i64 y1, .int .i64 y2, .int .i64 y3, .int .i64 y4] [.int .i64 0, .int .i64 0, .slice none 0 0]
  have HX := Lib.hid hxs
  have HW := Lib.hid hW
  have HB1 := Lib.hid gW
  have hz1 : w.heap.size + 3 ≤ W.heap.size := by omega
  have HA := Lib.hid ha
  have HE1 := Lib.hid (h.below gW)
  have HT1 := Lib.hid bt
  have HF1 := Lib.hid bf
  have HR1 := Lib.hid br
  have HQ : Hid (closeT (oo, rr, fs) (y0, y1, y2, y3, y4) = if ov oo rr fs = true then (oo, rr, if 0 ≤ qOf fs (y0, y1, y2, y3, y4) then fs.set (qOf fs (y0, y1, y2, y3, y4)).toNat z5 else fs) else (0, 0, [])) := Lib.hid rfl
  clear hxs hW gW sW ha h bt bf br
  go_enter Try.func20, Try.ntmps20
  go_wp2_with fail
  rw [← HW.out]
  (with_reducible refine (c_OutletValid oo rr a n cap fs _ HX.out hn HE1.out).mono ?_)
  rintro e w2 ⟨rfl, b2⟩
  have HB2 := Lib.hid (Below.step HB1.out b2 (by omega))
  have hz2 : w.heap.size + 3 ≤ w2.heap.size := by have := b2.size; omega
  have HT2 := Lib.hid (HT1.out.keep b2)
  have HF2 := Lib.hid (HF1.out.keep b2)
  have HR2 := Lib.hid (HR1.out.keep b2)
  have HE2 := Lib.hid (HE1.out.below b2)
  clear b2 HB1 HT1 HF1 HR1 HE1 hz1
  obtain ⟨t0, t1, t2, ft⟩ := HT2.out.three
  obtain ⟨r0, r1, r2, fr⟩ := HR2.out.three
  cases h1 : ov oo rr fs
  · have HZ := Lib.hid (HQ.out.trans (by rw [h1, if_neg Bool.false_ne_true]))
    clear HQ
    go_wp2
    refine bodyPost_ret (v := .agg #[.int .i64 0, .int .i64 0, .slice none 0 0]) (by simp [results, Try.results20, go_sem, r0, r1, r2]) rfl ?_
    rw [HZ.out]
    refine retZeroO w _ ?_
    have := HB2.out
    go_grown
  have HQ2 := Lib.hid (HQ.out.trans (if_pos h1))
  clear HQ
  go_wp2_with fail
  (with_reducible refine (c_clone oo rr a n cap fs _ HX.out hn HE2.out HA.out).mono ?_)
  rintro e w5 ⟨a5, c5, rfl, o5, g5⟩
  rw [HX.out] at o5 ⊢
  have HB5 := Lib.hid (Below.step HB2.out (grown_below g5) (by omega))
  have hz5 := g5.size
  have HO5 := Lib.hid o5
  have LT5 := Lib.hid o5.lt
  have HF5 := Lib.hid (HF2.out.keep (grown_below g5))
  have HT5 := Lib.hid (HT2.out.keep (grown_below g5))
  have HR5 := Lib.hid (HR2.out.keep (grown_below g5))
  have HE5 := Lib.hid (HE2.out.below (grown_below g5))
  clear o5 g5 t0 t1 t2 ft r0 r1 r2 fr HT2 HF2 HR2 HE2 HB2
  obtain ⟨f0, f1, f2, f3, f4, ff⟩ := HF5.out.five
  obtain ⟨t0, t1, t2, ft⟩ := HT5.out.three
  have hl5 : w.heap.size + 1 < w5.heap.size := by omega
  have hl6 : w.heap.size < w5.heap.size := by omega
  go_wp2_with fail
  clear f0 f1 f2 f3 f4 ff hl5 hl6 t0 t1 t2 ft
  obtain ⟨W6, hW6, gW6, sW6, bn⟩ := head1 w5 25 [.int .i64 oo, .int .i64 rr, .slice a5 n c5]
  have HW6 := Lib.hid hW6
  have HB6 := Lib.hid (Below.step HB5.out gW6 (by omega))
  have HS6 := Lib.hid sW6
  have HN6 := Lib.hid bn
  have HR6 := Lib.hid (HR5.out.keep gW6)
  have HO6 : Hid (FlwRow W6 w2.heap.size a5 n c5 fs) := Lib.hid (row_below HO5.out gW6)
  have HE6 := Lib.hid (HE5.out.below gW6)
  clear hW6 gW6 sW6 bn HB5 HR5 HO5 HE5 HT5 HF5
  rw [← HW6.out]
  refine (c_Index (y0, y1, y2, y3, y4) a5 n c5 fs _ HX.out hn HO6.out.flws).mono ?_
  rintro e w7 ⟨rfl, b7⟩
  have hz7 := b7.size
  rw [HS6.out] at hz7
  have HB7 := Lib.hid (Below.step HB6.out b7 (by rw [HS6.out]; omega))
  have HN7 := Lib.hid (HN6.out.keep b7)
  have HR7 := Lib.hid (HR6.out.keep b7)
  have HO7 : Hid (FlwRow w7 w2.heap.size a5 n c5 fs) := Lib.hid (row_below HO6.out b7)
  clear b7 HB6 HN6 HR6 HO6 HW6 HS6 HE6
  rcases qOf_cases fs (y0, y1, y2, y3, y4) with ⟨_, hpo⟩ | ⟨_, k, hpo, hk, _, _⟩
  · have HQ3 : Hid (closeT (oo, rr, fs) (y0, y1, y2, y3, y4) = (oo, rr, fs)) := Lib.hid (by rw [HQ2.out, hpo]; rfl)
    rw [hpo]
    clear HQ2 hpo
    obtain ⟨n0, n1, n2, fn⟩ := HN7.out.three
    obtain ⟨r0, r1, r2, fr⟩ := HR7.out.three
    go_wp2
    refine bodyPost_ret (v := .agg #[.int .i64 oo, .int .i64 rr, .slice a5 n c5]) (by simp [results, Try.results20, go_sem, r0, r1, r2]) rfl ?_
    rw [HQ3.out]
    unfold RetO RetOut
    simp only [HX.out]
    have hne : (Value.slice a5 n c5).ownBlock ≠ some (w.heap.size + 2) := row_ne HO7.out HR7.out (by decide)
    have hb7 := HB7.out
    refine ⟨a5, c5, rfl, row_wider (row_set (row_set (row_set HO7.out _ _ hne) _ _ hne) _ _ hne) (by omega), below_grown ?_⟩
    go_grown
  · have hk' : k < n := by rw [← HX.out]; exact hk
    have HQ3 : Hid (closeT (oo, rr, fs) (y0, y1, y2, y3, y4) = (oo, rr, fs.set k z5)) := Lib.hid (by rw [HQ2.out, hpo, if_pos (by omega)]; rfl)
    rw [hpo]
    clear HQ2 hpo hk
    obtain ⟨g5, rfl, hg5a, hg5b⟩ : ∃ g, a5 = some ⟨g, 0, none⟩ ∧ w2.heap.size ≤ g ∧ g < w5.heap.size := by
      obtain ⟨g, c, hv, h1, h2⟩ := HO7.out.form (by omega)
      injection hv with hv
      exact ⟨g, hv, h1, (LT5.out g (by rw [hv]; rfl)).2⟩
    obtain ⟨n0, n1, n2, fn⟩ := HN7.out.three
    obtain ⟨r0, r1, r2, fr⟩ := HR7.out.three
    obtain ⟨⟨d0, d1, d2, d3, d4⟩, fd⟩ := HO7.out.cells (k := k) hk'
    have HPUT := Lib.hid (HO7.out.put (i := k) hk' z5)
    have HLEN : Hid ((fs.set k z5).length = n) := Lib.hid (by rw [List.length_set, HX.out])
    generalize fs.getD k z5 = E2 at *
    obtain ⟨q0, q1, q2, q3, q4⟩ := E2
    dsimp only at d0 d1 d2 d3 d4
    have hx1 : ¬ g5 = w5.heap.size := by omega
    have hx2 : ¬ w5.heap.size = g5 := by omega
    have hx3 : ¬ g5 = w.heap.size + 2 := by omega
    have hx4 : ¬ w.heap.size + 2 = g5 := by omega
    have hx5 : ¬ w.heap.size + 2 = w5.heap.size := by omega
    have hl7 : w5.heap.size < w7.heap.size := by omega
    have hl8 : w.heap.size + 2 < w7.heap.size := by omega
    have hl9 : g5 < w7.heap.size := by omega
    clear r0 r1 r2 fr
    go_upto_region 7 with fail
    obtain ⟨p1, p2⟩ := HPUT.out
    unfold z5 at p1 p2
    dsimp only at p1 p2
    obtain ⟨W8, hW8⟩ : ∃ W8, W8 = (((((w7.setCell ⟨g5, k * 5, none⟩ (.int .i64 0)).setCell ⟨g5, k * 5 + 1, none⟩ (.int .i64 0)).setCell ⟨g5, k * 5 + 2, none⟩ (.int .i64 0)).setCell ⟨g5, k * 5 + 3, none⟩ (.int .i64 0)).setCell ⟨g5, k * 5 + 4, none⟩ (.int .i64 0)) := ⟨_, rfl⟩
    rw [← hW8] at p1 p2
    have HN8 := Lib.hid (HN7.out.kept p2 (by simp; omega))
    have HR8 := Lib.hid (HR7.out.kept p2 (by simp; omega))
    have HB8 := Lib.hid (HB7.out.grown p2 (by omega) (fun q hq => by cases hq; omega))
    have HO8 := Lib.hid p1
    have HW8 := Lib.hid hW8
    have hz8 := p2.size
    clear hW8 p1 p2 HPUT n0 n1 n2 fn d0 d1 d2 d3 d4 fd HN7 HR7 HO7 HB7 hx1 hx2
    rw [← HW8.out]
    clear HW8
    obtain ⟨n0, n1, n2, fn⟩ := HN8.out.three
    obtain ⟨r0, r1, r2, fr⟩ := HR8.out.three
    go_wp2
    refine bodyPost_ret (v := .agg #[.int .i64 oo, .int .i64 rr, .slice (some ⟨g5, 0, none⟩) n c5]) (by simp [results, Try.results20, go_sem, r0, r1, r2]) rfl ?_
    have hne : (Value.slice (some ⟨g5, 0, none⟩) n c5).ownBlock ≠ some (w.heap.size + 2) := fun e => hx3 (by injection e)
    rw [HQ3.out]
    unfold RetO RetOut
    simp only [HLEN.out]
    have hb8 := HB8.out
    refine ⟨_, c5, rfl, row_wider (row_set (row_set (row_set HO8.out _ _ hne) _ _ hne) _ _ hne) (by omega), below_grown ?_⟩
    go_grown
end Go.Proofs.Ytalalapjanckdaa
/- CloseOut of the reference. No condition but lists of at most 2^20 flows. -/
namespace Go.Proofs.Ytalalapjanckdaa
open Go.RowKit
set_option maxRecDepth 100000 in
set_option maxHeartbeats 4000000 in
theorem s_CloseOut (oo rr : Int) (f : F5) (a : Option Addr) (n cap : Nat) (fs : List F5) (w : World) (hxs : fs.length = n) (hn : n ≤ 1048576) (h : Flws w a fs) (ha : a = none → n = 0 ∧ cap = 0) :
    Calls Try.prog 17 #[.agg #[.int .i64 oo, .int .i64 rr, .slice a n cap], fvv f] w (RetO w (closeT (oo, rr, fs) f)) := by
  obtain ⟨y0, y1, y2, y3, y4⟩ := f
  unfold fvv
  obtain ⟨W, hW, gW, sW, bt, bf, br⟩ := head3 w 25 27 25 [.int .i64 oo, .int .i64 rr, .slice a n cap] [.int .i64 y0, .int .i64 y1, .int .i64 y2, .int .i64 y3, .int .i64 y4] [.int .i64 0, .int .i64 0, .slice none 0 0]
  have HX := Lib.hid hxs
  have HW := Lib.hid hW
  have HB1 := Lib.hid gW
  have hz1 : w.heap.size + 3 ≤ W.heap.size := by omega
  have HA := Lib.hid ha
  have HE1 := Lib.hid (h.below gW)
  have HT1 := Lib.hid bt
  have HF1 := Lib.hid bf
  have HR1 := Lib.hid br
  have HQ : Hid (closeT (oo, rr, fs) (y0, y1, y2, y3, y4) = if ov oo rr fs = true then (oo, rr, if 0 ≤ qOf fs (y0, y1, y2, y3, y4) then fs.set (qOf fs (y0, y1, y2, y3, y4)).toNat z5 else fs) else (0, 0, [])) := Lib.hid rfl
  clear hxs hW gW sW ha h bt bf br
  go_enter Try.func17, Try.ntmps17
  go_wp2_with fail
  rw [← HW.out]
  (with_reducible refine (s_OutletValid oo rr a n cap fs _ HX.out hn HE1.out).mono ?_)
  rintro e w2 ⟨rfl, b2⟩
  have HB2 := Lib.hid (Below.step HB1.out b2 (by omega))
  have hz2 : w.heap.size + 3 ≤ w2.heap.size := by have := b2.size; omega
  have HT2 := Lib.hid (HT1.out.keep b2)
  have HF2 := Lib.hid (HF1.out.keep b2)
  have HR2 := Lib.hid (HR1.out.keep b2)
  have HE2 := Lib.hid (HE1.out.below b2)
  clear b2 HB1 HT1 HF1 HR1 HE1 hz1
  obtain ⟨t0, t1, t2, ft⟩ := HT2.out.three
  obtain ⟨r0, r1, r2, fr⟩ := HR2.out.three
  cases h1 : ov oo rr fs
  · have HZ := Lib.hid (HQ.out.trans (by rw [h1, if_neg Bool.false_ne_true]))
    clear HQ
    go_wp2
    refine bodyPost_ret (v := .agg #[.int .i64 0, .int .i64 0, .slice none 0 0]) (by simp [results, Try.results17, go_sem, r0, r1, r2]) rfl ?_
    rw [HZ.out]
    refine retZeroO w _ ?_
    have := HB2.out
    go_grown
  have HQ2 := Lib.hid (HQ.out.trans (if_pos h1))
  clear HQ
  go_wp2_with fail
  (with_reducible refine (s_copy oo rr a n cap fs _ HX.out hn HE2.out HA.out).mono ?_)
  rintro e w5 ⟨a5, c5, rfl, o5, g5, hsm⟩
  rw [HX.out] at o5 ⊢
  have HB5 := Lib.hid (Below.step HB2.out (grown_below g5) (by omega))
  have hz5 := g5.size
  have HO5 := Lib.hid o5
  have LT5 := Lib.hid o5.lt
  have HF5 := Lib.hid (HF2.out.keep (grown_below g5))
  have HT5 := Lib.hid (HT2.out.keep (grown_below g5))
  have HR5 := Lib.hid (HR2.out.keep (grown_below g5))
  have HE5 := Lib.hid (HE2.out.below (grown_below g5))
  clear o5 g5 t0 t1 t2 ft r0 r1 r2 fr HT2 HF2 HR2 HE2 HB2
  obtain ⟨f0, f1, f2, f3, f4, ff⟩ := HF5.out.five
  obtain ⟨t0, t1, t2, ft⟩ := HT5.out.three
  have hl5 : w.heap.size + 1 < w5.heap.size := by omega
  have hl6 : w.heap.size < w5.heap.size := by omega
  go_wp2_with fail
  clear f0 f1 f2 f3 f4 ff hl5 hl6 t0 t1 t2 ft
  obtain ⟨W6, hW6, gW6, sW6, bn⟩ := head1 w5 25 [.int .i64 oo, .int .i64 rr, .slice a5 n c5]
  have HW6 := Lib.hid hW6
  have HB6 := Lib.hid (Below.step HB5.out gW6 (by omega))
  have HS6 := Lib.hid sW6
  have HN6 := Lib.hid bn
  have HR6 := Lib.hid (HR5.out.keep gW6)
  have HO6 : Hid (FlwRow W6 w2.heap.size a5 n c5 fs) := Lib.hid (row_below HO5.out gW6)
  have HE6 := Lib.hid (HE5.out.below gW6)
  clear hW6 gW6 sW6 bn HB5 HR5 HO5 HE5 HT5 HF5
  rw [← HW6.out]
  refine (s_Place oo rr (y0, y1, y2, y3, y4) a n cap fs _ HX.out hn HE6.out).mono ?_
  rintro e w7 ⟨rfl, b7⟩
  have hz7 := b7.size
  rw [HS6.out] at hz7
  have HB7 := Lib.hid (Below.step HB6.out b7 (by rw [HS6.out]; omega))
  have HN7 := Lib.hid (HN6.out.keep b7)
  have HR7 := Lib.hid (HR6.out.keep b7)
  have HO7 : Hid (FlwRow w7 w2.heap.size a5 n c5 fs) := Lib.hid (row_below HO6.out b7)
  clear b7 HB6 HN6 HR6 HO6 HW6 HS6 HE6
  rcases qOf_cases fs (y0, y1, y2, y3, y4) with ⟨_, hpo⟩ | ⟨_, k, hpo, hk, _, _⟩
  · have HQ3 : Hid (closeT (oo, rr, fs) (y0, y1, y2, y3, y4) = (oo, rr, fs)) := Lib.hid (by rw [HQ2.out, hpo]; rfl)
    rw [hpo]
    clear HQ2 hpo
    obtain ⟨n0, n1, n2, fn⟩ := HN7.out.three
    obtain ⟨r0, r1, r2, fr⟩ := HR7.out.three
    go_wp2
    refine bodyPost_ret (v := .agg #[.int .i64 oo, .int .i64 rr, .slice a5 n c5]) (by simp [results, Try.results17, go_sem, r0, r1, r2]) rfl ?_
    rw [HQ3.out]
    unfold RetO RetOut
    simp only [HX.out]
    have hne : (Value.slice a5 n c5).ownBlock ≠ some (w.heap.size + 2) := row_ne HO7.out HR7.out (by decide)
    have hb7 := HB7.out
    refine ⟨a5, c5, rfl, row_wider (row_set (row_set (row_set HO7.out _ _ hne) _ _ hne) _ _ hne) (by omega), below_grown ?_⟩
    go_grown
  · have hk' : k < n := by rw [← HX.out]; exact hk
    have HQ3 : Hid (closeT (oo, rr, fs) (y0, y1, y2, y3, y4) = (oo, rr, fs.set k z5)) := Lib.hid (by rw [HQ2.out, hpo, if_pos (by omega)]; rfl)
    rw [hpo]
    clear HQ2 hpo hk
    obtain ⟨g5, rfl, hg5a, hg5b⟩ : ∃ g, a5 = some ⟨g, 0, none⟩ ∧ w2.heap.size ≤ g ∧ g < w5.heap.size := by
      obtain ⟨g, c, hv, h1, h2⟩ := HO7.out.form (by omega)
      injection hv with hv
      exact ⟨g, hv, h1, (LT5.out g (by rw [hv]; rfl)).2⟩
    obtain ⟨n0, n1, n2, fn⟩ := HN7.out.three
    obtain ⟨r0, r1, r2, fr⟩ := HR7.out.three
    obtain ⟨⟨d0, d1, d2, d3, d4⟩, fd⟩ := HO7.out.cells (k := k) hk'
    have HPUT := Lib.hid (HO7.out.put (i := k) hk' z5)
    have HLEN : Hid ((fs.set k z5).length = n) := Lib.hid (by rw [List.length_set, HX.out])
    generalize fs.getD k z5 = E2 at *
    obtain ⟨q0, q1, q2, q3, q4⟩ := E2
    dsimp only at d0 d1 d2 d3 d4
    have hx1 : ¬ g5 = w5.heap.size := by omega
    have hx2 : ¬ w5.heap.size = g5 := by omega
    have hx3 : ¬ g5 = w.heap.size + 2 := by omega
    have hx4 : ¬ w.heap.size + 2 = g5 := by omega
    have hx5 : ¬ w.heap.size + 2 = w5.heap.size := by omega
    have hl7 : w5.heap.size < w7.heap.size := by omega
    have hl8 : w.heap.size + 2 < w7.heap.size := by omega
    have hl9 : g5 < w7.heap.size := by omega
    clear r0 r1 r2 fr
    go_upto_region 7 with fail
    obtain ⟨p1, p2⟩ := HPUT.out
    unfold z5 at p1 p2
    dsimp only at p1 p2
    obtain ⟨W8, hW8⟩ : ∃ W8, W8 = (((((w7.setCell ⟨g5, k * 5, none⟩ (.int .i64 0)).setCell ⟨g5, k * 5 + 1, none⟩ (.int .i64 0)).setCell ⟨g5, k * 5 + 2, none⟩ (.int .i64 0)).setCell ⟨g5, k * 5 + 3, none⟩ (.int .i64 0)).setCell ⟨g5, k * 5 + 4, none⟩ (.int .i64 0)) := ⟨_, rfl⟩
    rw [← hW8] at p1 p2
    have HN8 := Lib.hid (HN7.out.kept p2 (by simp; omega))
    have HR8 := Lib.hid (HR7.out.kept p2 (by simp; omega))
    have HB8 := Lib.hid (HB7.out.grown p2 (by omega) (fun q hq => by cases hq; omega))
    have HO8 := Lib.hid p1
    have HW8 := Lib.hid hW8
    have hz8 := p2.size
    clear hW8 p1 p2 HPUT n0 n1 n2 fn d0 d1 d2 d3 d4 fd HN7 HR7 HO7 HB7 hx1 hx2
    rw [← HW8.out]
    clear HW8
    obtain ⟨n0, n1, n2, fn⟩ := HN8.out.three
    obtain ⟨r0, r1, r2, fr⟩ := HR8.out.three
    go_wp2
    refine bodyPost_ret (v := .agg #[.int .i64 oo, .int .i64 rr, .slice (some ⟨g5, 0, none⟩) n c5]) (by simp [results, Try.results17, go_sem, r0, r1, r2]) rfl ?_
    have hne : (Value.slice (some ⟨g5, 0, none⟩) n c5).ownBlock ≠ some (w.heap.size + 2) := fun e => hx3 (by injection e)
    rw [HQ3.out]
    unfold RetO RetOut
    simp only [HLEN.out]
    have hb8 := HB8.out
    refine ⟨_, c5, rfl, row_wider (row_set (row_set (row_set HO8.out _ _ hne) _ _ hne) _ _ hne) (by omega), below_grown ?_⟩
    go_grown
end Go.Proofs.Ytalalapjanckdaa
/- SendOut of the program. No condition but lists of at most 2^20 flows. -/
namespace Go.Proofs.Ytalalapjanckdaa
open Go.RowKit
/-- The slot of a flow that goes out, or -1. -/
def slT (fs : List F5) (f : F5) : Int := if qOf fs f < 0 then qOf fs z5 else qOf fs f
/-- A flow as it is outside. -/
def outF (o r s : Int) (f : F5) : F5 := (o, r + s, f.2.2.1, f.2.2.2.1, f.2.2.2.2)
/-- An outlet after a packet from inside, the flow outside, and whether it has a slot. -/
def sendT (t : O3) (f : F5) : O3 × F5 × Bool :=
  if (ov t.1 t.2.1 t.2.2 && fv f) = true then
    (if slT t.2.2 f < 0 then (t, z5, false) else ((t.1, t.2.1, t.2.2.set (slT t.2.2 f).toNat f), outF t.1 t.2.1 (slT t.2.2 f) f, true))
  else ((0, 0, []), z5, false)
/-- An outlet, a flow and a bool are handed back, the list a new one. -/
def RetOF (w : World) (q : O3 × F5 × Bool) (e : Ending) (w' : World) : Prop :=
  ∃ (a : Option Addr) (cap : Nat), e = .returned (.tuple #[.agg #[.int .i64 q.1.1, .int .i64 q.1.2.1, .slice a q.1.2.2.length cap], fvv q.2.1, .bool q.2.2]) ∧ w'.ownsRow w.heap.size 27 5 (.slice a q.1.2.2.length cap) q.1.2.2.length (fCells q.1.2.2) ∧ w.grownBy w' none ∧ (q.1.2.2.length = 0 → a = none ∧ cap = 0)
theorem retZeroOF (w w' : World) (h : Below w.heap.size w w') : RetOF w ((0, 0, []), z5, false) (.returned (.tuple #[.agg #[.int .i64 0, .int .i64 0, .slice none 0 0], .agg #[.int .i64 0, .int .i64 0, .int .i64 0, .int .i64 0, .int .i64 0], .bool false])) w' :=
  ⟨none, 0, rfl, row_nil _ _ _ _, below_grown h, fun _ => ⟨rfl, rfl⟩⟩
theorem send_zero {t : O3} {f : F5} (h : (ov t.1 t.2.1 t.2.2 && fv f) = false) : sendT t f = ((0, 0, []), z5, false) := by rw [sendT, h]; rfl
theorem slT_cases (fs : List F5) (f : F5) : slT fs f = -1 ∨ ∃ k : Nat, slT fs f = (k : Int) ∧ k < fs.length := by
  unfold slT
  rcases qOf_cases fs f with ⟨_, h⟩ | ⟨_, k, h, hk, _⟩
  · rw [if_pos (by omega)]
    rcases qOf_cases fs z5 with ⟨_, h⟩ | ⟨_, k, h, hk, _⟩
    · exact .inl h
    · exact .inr ⟨k, h, hk⟩
  · rw [if_neg (by omega)]
    exact .inr ⟨k, h, hk⟩
theorem head4 (w : World) (T T' T'' T3 : TypeId) (c c' c'' c3 : List Value) : ∃ W, W = (((w.alloc (.cells c.toArray T)).alloc (.cells c'.toArray T')).alloc (.cells c''.toArray T'')).alloc (.cells c3.toArray T3) ∧
    Below w.heap.size w W ∧ W.heap.size = w.heap.size + 4 ∧ Box W w.heap.size T c ∧ Box W (w.heap.size + 1) T' c' ∧ Box W (w.heap.size + 2) T'' c'' ∧ Box W (w.heap.size + 3) T3 c3 := by
  obtain ⟨W, hW, h1, h2, h3, h4, h5⟩ := head3 w T T' T'' c c' c''
  subst hW
  refine ⟨_, rfl, h1.alloc (by omega) _, by rw [World.size_alloc, h2], h3.alloc _, h4.alloc _, h5.alloc _, Box.new2 _ _ _ _ h2⟩
set_option maxRecDepth 100000 in
set_option maxHeartbeats 8000000 in
theorem c_SendOut (oo rr : Int) (f : F5) (a : Option Addr) (n cap : Nat) (fs : List F5) (w : World) (hxs : fs.length = n) (hn : n ≤ 1048576) (h : Flws w a fs) (ha : a = none → n = 0 ∧ cap = 0) :
    Calls Try.prog 12 #[.agg #[.int .i64 oo, .int .i64 rr, .slice a n cap], fvv f] w (RetOF w (sendT (oo, rr, fs) f)) := by
  obtain ⟨y0, y1, y2, y3, y4⟩ := f
  unfold fvv
  obtain ⟨W, hW, gW, sW, bt, bf, br, bg⟩ := head4 w 25 27 25 27 [.int .i64 oo, .int .i64 rr, .slice a n cap] [.int .i64 y0, .int .i64 y1, .int .i64 y2, .int .i64 y3, .int .i64 y4] [.int .i64 0, .int .i64 0, .slice none 0 0] [.int .i64 0, .int .i64 0, .int .i64 0, .int .i64 0, .int .i64 0]
  have HX := Lib.hid hxs
  have HW := Lib.hid hW
  have HB1 := Lib.hid gW
  have hz1 : w.heap.size + 4 ≤ W.heap.size := by omega
  have HA := Lib.hid ha
  have HE1 := Lib.hid (h.below gW)
  have HT1 := Lib.hid bt
  have HF1 := Lib.hid bf
  have HR1 := Lib.hid br
  have HG1 := Lib.hid bg
  have HQ : Hid (sendT (oo, rr, fs) (y0, y1, y2, y3, y4) = if (ov oo rr fs && fv (y0, y1, y2, y3, y4)) = true then (if slT fs (y0, y1, y2, y3, y4) < 0 then ((oo, rr, fs), z5, false) else ((oo, rr, fs.set (slT fs (y0, y1, y2, y3, y4)).toNat (y0, y1, y2, y3, y4)), (oo, rr + slT fs (y0, y1, y2, y3, y4), y2, y3, y4), true)) else ((0, 0, []), z5, false)) := Lib.hid rfl
  clear hxs hW gW sW ha h bt bf br bg
  go_enter Try.func12, Try.ntmps12
  go_wp2_with fail
  rw [← HW.out]
  (refine (c_OutletValid oo rr a n cap fs _ HX.out hn HE1.out).mono ?_)
  rintro e w2 ⟨rfl, b2⟩
  have HB2 := Lib.hid (Below.step HB1.out b2 (by omega))
  have hz2 : w.heap.size + 4 ≤ w2.heap.size := by have := b2.size; omega
  have HT2 := Lib.hid (HT1.out.keep b2)
  have HF2 := Lib.hid (HF1.out.keep b2)
  have HR2 := Lib.hid (HR1.out.keep b2)
  have HG2 := Lib.hid (HG1.out.keep b2)
  have HE2 := Lib.hid (HE1.out.below b2)
  clear b2 HB1 HT1 HF1 HR1 HG1 HE1 hz1
  obtain ⟨t0, t1, t2, ft⟩ := HT2.out.three
  obtain ⟨r0, r1, r2, fr⟩ := HR2.out.three
  obtain ⟨f0, f1, f2, f3, f4, ff⟩ := HF2.out.five
  obtain ⟨g0, g1, g2, g3, g4, fg⟩ := HG2.out.five
  cases h1 : ov oo rr fs
  · have HZ := Lib.hid (HQ.out.trans (if_neg (by simp [h1])))
    clear HQ
    go_wp2
    refine bodyPost_ret (v := .tuple #[.agg #[.int .i64 0, .int .i64 0, .slice none 0 0], .agg #[.int .i64 0, .int .i64 0, .int .i64 0, .int .i64 0, .int .i64 0], .bool false]) (by simp [results, Try.results12, go_sem, r0, r1, r2, g0, g1, g2, g3, g4]) rfl ?_
    rw [HZ.out]
    refine retZeroOF w _ ?_
    have := HB2.out
    go_grown
  have HI1 := Lib.hid h1
  rw [h1, Bool.true_and] at HQ
  clear h1
  go_wp2_with fail
  (refine (c_FlowValid (y0, y1, y2, y3, y4) _).mono ?_)
  rintro e w3 ⟨rfl, b3⟩
  have HB3 := Lib.hid (Below.step HB2.out b3 (by omega))
  have hz3 : w.heap.size + 4 ≤ w3.heap.size := by have := b3.size; omega
  have HT3 := Lib.hid (HT2.out.keep b3)
  have HF3 := Lib.hid (HF2.out.keep b3)
  have HR3 := Lib.hid (HR2.out.keep b3)
  have HG3 := Lib.hid (HG2.out.keep b3)
  have HE3 := Lib.hid (HE2.out.below b3)
  clear b3 HB2 HT2 HF2 HR2 HG2 HE2 hz2 t0 t1 t2 ft r0 r1 r2 fr f0 f1 f2 f3 f4 ff g0 g1 g2 g3 g4 fg
  obtain ⟨t0, t1, t2, ft⟩ := HT3.out.three
  obtain ⟨r0, r1, r2, fr⟩ := HR3.out.three
  obtain ⟨f0, f1, f2, f3, f4, ff⟩ := HF3.out.five
  obtain ⟨g0, g1, g2, g3, g4, fg⟩ := HG3.out.five
  cases h2 : fv (y0, y1, y2, y3, y4)
  · have HZ := Lib.hid (HQ.out.trans (if_neg (by simp [h2])))
    clear HQ
    go_wp2
    refine bodyPost_ret (v := .tuple #[.agg #[.int .i64 0, .int .i64 0, .slice none 0 0], .agg #[.int .i64 0, .int .i64 0, .int .i64 0, .int .i64 0, .int .i64 0], .bool false]) (by simp [results, Try.results12, go_sem, r0, r1, r2, g0, g1, g2, g3, g4]) rfl ?_
    rw [HZ.out]
    refine retZeroOF w _ ?_
    have := HB3.out
    go_grown
  have HQ2 := Lib.hid (HQ.out.trans (if_pos h2))
  have hrr := inB_true.1 (ov_parts HI1.out).2.2.1
  have hnn := inB_true.1 (ov_parts HI1.out).2.1
  rw [HX.out] at hrr hnn
  clear HQ h2
  go_wp2_with fail
  (with_reducible refine (c_clone oo rr a n cap fs _ HX.out hn HE3.out HA.out).mono ?_)
  rintro e w5 ⟨a5, c5, rfl, o5, g5⟩
  rw [HX.out] at o5 ⊢
  have HB5 := Lib.hid (Below.step HB3.out (grown_below g5) (by omega))
  have hz5 := g5.size
  have HO5 := Lib.hid o5
  have LT5 := Lib.hid o5.lt
  have HF5 := Lib.hid (HF3.out.keep (grown_below g5))
  have HT5 := Lib.hid (HT3.out.keep (grown_below g5))
  have HR5 := Lib.hid (HR3.out.keep (grown_below g5))
  have HG5 := Lib.hid (HG3.out.keep (grown_below g5))
  have HE5 := Lib.hid (HE3.out.below (grown_below g5))
  clear o5 g5 t0 t1 t2 ft r0 r1 r2 fr f0 f1 f2 f3 f4 ff g0 g1 g2 g3 g4 fg HT3 HF3 HR3 HG3 HE3 HB3
  obtain ⟨f0, f1, f2, f3, f4, ff⟩ := HF5.out.five
  obtain ⟨t0, t1, t2, ft⟩ := HT5.out.three
  have hl5 : w.heap.size + 1 < w5.heap.size := by omega
  have hl6 : w.heap.size < w5.heap.size := by omega
  go_wp2_with fail
  clear f0 f1 f2 f3 f4 ff hl5 hl6 t0 t1 t2 ft
  obtain ⟨W6, hW6, gW6, sW6, bn⟩ := head1 w5 25 [.int .i64 oo, .int .i64 rr, .slice a5 n c5]
  have HW6 := Lib.hid hW6
  have HB6 := Lib.hid (Below.step HB5.out gW6 (by omega))
  have HS6 := Lib.hid sW6
  have HN6 := Lib.hid bn
  have HT6 := Lib.hid (HT5.out.keep gW6)
  have HF6 := Lib.hid (HF5.out.keep gW6)
  have HR6 := Lib.hid (HR5.out.keep gW6)
  have HG6 := Lib.hid (HG5.out.keep gW6)
  have HO6 : Hid (FlwRow W6 w3.heap.size a5 n c5 fs) := Lib.hid (row_below HO5.out gW6)
  have HE6 := Lib.hid (HE5.out.below gW6)
  clear hW6 gW6 sW6 bn HB5 HR5 HG5 HO5 HE5 HT5 HF5
  rw [← HW6.out]
  refine (c_Index (y0, y1, y2, y3, y4) a5 n c5 fs _ HX.out hn HO6.out.flws).mono ?_
  rintro e w7 ⟨rfl, b7⟩
  have hz7 := b7.size
  rw [HS6.out] at hz7
  have HB7 := Lib.hid (Below.step HB6.out b7 (by rw [HS6.out]; omega))
  have HN7 := Lib.hid (HN6.out.keep b7)
  have HT7 := Lib.hid (HT6.out.keep b7)
  have HF7 := Lib.hid (HF6.out.keep b7)
  have HR7 := Lib.hid (HR6.out.keep b7)
  have HG7 := Lib.hid (HG6.out.keep b7)
  have HO7 : Hid (FlwRow w7 w3.heap.size a5 n c5 fs) := Lib.hid (row_below HO6.out b7)
  have HE7 := Lib.hid (HE6.out.below b7)
  clear b7 HB6 HN6 HT6 HF6 HR6 HG6 HO6 HW6 HS6 HE6
  have HSL : Hid (slT fs (y0, y1, y2, y3, y4) = if qOf fs (y0, y1, y2, y3, y4) < 0 then qOf fs z5 else qOf fs (y0, y1, y2, y3, y4)) := Lib.hid rfl
  generalize qOf fs (y0, y1, y2, y3, y4) = pf at *
  go_upto_if 27 with fail
  go_cut [8] (fun s wx => s = .int .i64 (slT fs (y0, y1, y2, y3, y4)) ∧ Below w7.heap.size w7 wx)
  case first =>
    by_cases hp : pf < 0
    · have HZ := Lib.hid (HSL.out.trans (if_pos hp))
      obtain ⟨n0, n1, n2, fn⟩ := HN7.out.three
      obtain ⟨t0, t1, t2, ft⟩ := HT7.out.three
      clear HSL
      go_wp2_with fail
      refine (c_Index z5 a5 n c5 fs _ HX.out hn HO7.out.flws).mono ?_
      rintro e w8 ⟨rfl, b8⟩
      go_wp2_with fail
      go_meet
      exact ⟨by rw [HZ.out], b8⟩
    · have HZ := Lib.hid (HSL.out.trans (if_neg hp))
      clear HSL
      go_wp2_with fail
      go_meet
      exact ⟨by rw [HZ.out], Below.refl _ _⟩
  case rest =>
    obtain ⟨rfl, b8⟩ := hcut
    obtain ⟨w8, rfl⟩ : ∃ x, x = wc := ⟨_, rfl⟩
    have hz8 := b8.size
    have HB8 := Lib.hid (Below.step HB7.out b8 (by omega))
    have HN8 := Lib.hid (HN7.out.keep b8)
    have HT8 := Lib.hid (HT7.out.keep b8)
    have HF8 := Lib.hid (HF7.out.keep b8)
    have HR8 := Lib.hid (HR7.out.keep b8)
    have HG8 := Lib.hid (HG7.out.keep b8)
    have HO8 : Hid (FlwRow w8 w3.heap.size a5 n c5 fs) := Lib.hid (row_below HO7.out b8)
    clear b8 HB7 HN7 HT7 HF7 HR7 HG7 HO7 HE7 HSL
    obtain ⟨n0, n1, n2, fn⟩ := HN8.out.three
    obtain ⟨r0, r1, r2, fr⟩ := HR8.out.three
    obtain ⟨g0, g1, g2, g3, g4, fg⟩ := HG8.out.five
    have hln : w5.heap.size < w8.heap.size := by omega
    have hlr : w.heap.size + 2 < w8.heap.size := by omega
    have hlg : w.heap.size + 3 < w8.heap.size := by omega
    have hlf : w.heap.size + 1 < w8.heap.size := by omega
    have hlt : w.heap.size < w8.heap.size := by omega
    rcases slT_cases fs (y0, y1, y2, y3, y4) with hs | ⟨k, hs, hk⟩
    · have HQ3 : Hid (sendT (oo, rr, fs) (y0, y1, y2, y3, y4) = ((oo, rr, fs), z5, false)) := Lib.hid (by rw [HQ2.out, hs]; rfl)
      rw [hs]
      clear HQ2 hs
      go_wp2
      refine bodyPost_ret (v := .tuple #[.agg #[.int .i64 oo, .int .i64 rr, .slice a5 n c5], .agg #[.int .i64 0, .int .i64 0, .int .i64 0, .int .i64 0, .int .i64 0], .bool false]) (by simp [results, Try.results12, go_sem, r0, r1, r2, g0, g1, g2, g3, g4]) rfl ?_
      rw [HQ3.out]
      unfold RetOF
      simp only [HX.out]
      have hne : (Value.slice a5 n c5).ownBlock ≠ some (w.heap.size + 2) := row_ne HO8.out HR8.out (by decide)
      have hne3 : (Value.slice a5 n c5).ownBlock ≠ some (w.heap.size + 3) := fun e => by have := (LT5.out _ e).1; omega
      have hb8 := HB8.out
      refine ⟨a5, c5, rfl, row_wider (row_set (row_set (row_set (row_set (row_set (row_set (row_set (row_set HO8.out _ _ hne) _ _ hne) _ _ hne) _ _ hne3) _ _ hne3) _ _ hne3) _ _ hne3) _ _ hne3) (by omega), below_grown ?_, fun h => absurd h (by omega)⟩
      go_grown
    have hk' : k < n := by rw [← HX.out]; exact hk
    have HQ3 : Hid (sendT (oo, rr, fs) (y0, y1, y2, y3, y4) = ((oo, rr, fs.set k (y0, y1, y2, y3, y4)), (oo, rr + (k : Int), y2, y3, y4), true)) := Lib.hid (by rw [HQ2.out, hs, if_neg (by omega)]; rfl)
    rw [hs]
    clear HQ2 hs hk
    obtain ⟨g5, rfl, hg5a, hg5b⟩ : ∃ g, a5 = some ⟨g, 0, none⟩ ∧ w3.heap.size ≤ g ∧ g < w5.heap.size := by
      obtain ⟨g, c, hv, h1, h2⟩ := HO8.out.form (by omega)
      injection hv with hv
      exact ⟨g, hv, h1, (LT5.out g (by rw [hv]; rfl)).2⟩
    obtain ⟨f0, f1, f2, f3, f4, ff⟩ := HF8.out.five
    obtain ⟨⟨d0, d1, d2, d3, d4⟩, fd⟩ := HO8.out.cells (k := k) hk'
    have HPUT := Lib.hid (HO8.out.put (i := k) hk' (y0, y1, y2, y3, y4))
    have HLEN : Hid ((fs.set k (y0, y1, y2, y3, y4)).length = n) := Lib.hid (by rw [List.length_set, HX.out])
    generalize fs.getD k z5 = E2 at *
    obtain ⟨q0, q1, q2, q3, q4⟩ := E2
    dsimp only at d0 d1 d2 d3 d4
    clear r0 r1 r2 fr g0 g1 g2 g3 g4 fg
    go_upto_region 10 with fail
    obtain ⟨p1, p2⟩ := HPUT.out
    dsimp only at p1 p2
    obtain ⟨W9, hW9⟩ : ∃ W9, W9 = (((((w8.setCell ⟨g5, k * 5, none⟩ (.int .i64 y0)).setCell ⟨g5, k * 5 + 1, none⟩ (.int .i64 y1)).setCell ⟨g5, k * 5 + 2, none⟩ (.int .i64 y2)).setCell ⟨g5, k * 5 + 3, none⟩ (.int .i64 y3)).setCell ⟨g5, k * 5 + 4, none⟩ (.int .i64 y4)) := ⟨_, rfl⟩
    rw [← hW9] at p1 p2
    have HN9 := Lib.hid (HN8.out.kept p2 (by simp; omega))
    have HT9 := Lib.hid (HT8.out.kept p2 (by simp; omega))
    have HF9 := Lib.hid (HF8.out.kept p2 (by simp; omega))
    have HR9 := Lib.hid (HR8.out.kept p2 (by simp; omega))
    have HG9 := Lib.hid (HG8.out.kept p2 (by simp; omega))
    have HB9 := Lib.hid (HB8.out.grown p2 (by omega) (fun q hq => by cases hq; omega))
    have HO9 := Lib.hid p1
    have HW9 := Lib.hid hW9
    have hz9 := p2.size
    clear hW9 p1 p2 HPUT n0 n1 n2 fn d0 d1 d2 d3 d4 fd f0 f1 f2 f3 f4 ff HN8 HT8 HF8 HR8 HG8 HO8 HB8 hln hlr hlg hlf hlt
    rw [← HW9.out]
    clear HW9
    have hi1 : IntKind.i64.wrap (rr + (k : Int)) = rr + (k : Int) := IntWalk.i64_in _ (by omega)
    obtain ⟨f0, f1, f2, f3, f4, ff⟩ := HF9.out.five
    have hlf : w.heap.size + 1 < W9.heap.size := by omega
    go_upto_region 11 with fail
    obtain ⟨WA, hWA, gA, sA, bA⟩ := head1 W9 27 [.int .i64 y0, .int .i64 y1, .int .i64 y2, .int .i64 y3, .int .i64 y4]
    rw [← hWA]
    clear hWA f0 f1 f2 f3 f4 ff hlf
    have HNA := Lib.hid (HN9.out.keep gA)
    have HTA := Lib.hid (HT9.out.keep gA)
    have HRA := Lib.hid (HR9.out.keep gA)
    have HGA := Lib.hid (HG9.out.keep gA)
    have HBA := Lib.hid (Below.step HB9.out gA (by omega))
    have HOA : Hid (FlwRow WA w3.heap.size (some ⟨g5, 0, none⟩) n c5 (fs.set k (y0, y1, y2, y3, y4))) := Lib.hid (row_below HO9.out gA)
    have HSA := Lib.hid sA
    have HVA := Lib.hid bA
    obtain ⟨t0, t1, t2, ft⟩ := HTA.out.three
    obtain ⟨v0, v1, v2, v3, v4, fv9⟩ := HVA.out.five
    clear gA sA bA
    have hlv : W9.heap.size < WA.heap.size := HVA.out.lt
    have hlt : w.heap.size < WA.heap.size := HTA.out.lt
    have hx1 : ¬ w.heap.size = W9.heap.size := by omega
    have hx2 : ¬ W9.heap.size = w.heap.size := by omega
    go_region
    go_upto_region 12 with fail
    obtain ⟨WB, hWB⟩ : ∃ WB, WB = ((WA.setCell ⟨W9.heap.size, 0, none⟩ (.int .i64 oo)).setCell ⟨W9.heap.size, 1, none⟩ (.int .i64 (rr + (k : Int)))).drew := ⟨_, rfl⟩
    rw [← hWB]
    have HNB : Hid (Box WB w5.heap.size 25 [.int .i64 oo, .int .i64 rr, .slice (some ⟨g5, 0, none⟩) n c5]) := Lib.hid (by rw [hWB]; exact (((HNA.out.other (by simp; omega) _).other (by simp; omega) _).drew))
    have HRB : Hid (Box WB (w.heap.size + 2) 25 [.int .i64 0, .int .i64 0, .slice none 0 0]) := Lib.hid (by rw [hWB]; exact (((HRA.out.other (by simp; omega) _).other (by simp; omega) _).drew))
    have HGB : Hid (Box WB (w.heap.size + 3) 27 [.int .i64 0, .int .i64 0, .int .i64 0, .int .i64 0, .int .i64 0]) := Lib.hid (by rw [hWB]; exact (((HGA.out.other (by simp; omega) _).other (by simp; omega) _).drew))
    have HVB : Hid (Box WB W9.heap.size 27 [.int .i64 oo, .int .i64 (rr + (k : Int)), .int .i64 y2, .int .i64 y3, .int .i64 y4]) := Lib.hid (by rw [hWB]; exact ((HVA.out.set 0 _).set 1 _).drew)
    have hnv : (Value.slice (some ⟨g5, 0, none⟩) n c5).ownBlock ≠ some W9.heap.size := fun e => by injection e with e; have : g5 = W9.heap.size := e; omega
    have HOB : Hid (FlwRow WB w3.heap.size (some ⟨g5, 0, none⟩) n c5 (fs.set k (y0, y1, y2, y3, y4))) := Lib.hid (by rw [hWB]; exact row_drewN (row_set (row_set HOA.out _ _ hnv) _ _ hnv) 1)
    have HBB : Hid (Below w.heap.size w WB) := Lib.hid (by rw [hWB]; exact ((HBA.out.setCell (by simp; omega) _).setCell (by simp; omega) _).drew)
    have hzB : WB.heap.size = WA.heap.size := by rw [hWB]; show ((WA.setCell _ _).setCell _ _).heap.size = _; simp
    clear hWB t0 t1 t2 ft v0 v1 v2 v3 v4 fv9 HNA HTA HRA HGA HVA HOA HBA hx1 hx2 hlv hlt
    obtain ⟨n0, n1, n2, fn⟩ := HNB.out.three
    obtain ⟨v0, v1, v2, v3, v4, fv9⟩ := HVB.out.five
    obtain ⟨r0, r1, r2, fr⟩ := HRB.out.three
    obtain ⟨g0, g1, g2, g3, g4, fg⟩ := HGB.out.five
    have hln : w5.heap.size < WB.heap.size := HNB.out.lt
    have hlv : W9.heap.size < WB.heap.size := HVB.out.lt
    have hlr : w.heap.size + 2 < WB.heap.size := HRB.out.lt
    have hlg : w.heap.size + 3 < WB.heap.size := HGB.out.lt
    have hx1 : ¬ w.heap.size + 2 = W9.heap.size := by omega
    have hx2 : ¬ w.heap.size + 3 = W9.heap.size := by omega
    have hx3 : ¬ w.heap.size + 2 = w5.heap.size := by omega
    have hx4 : ¬ w.heap.size + 3 = w5.heap.size := by omega
    go_region
    go_wp2
    refine bodyPost_ret (v := .tuple #[.agg #[.int .i64 oo, .int .i64 rr, .slice (some ⟨g5, 0, none⟩) n c5], .agg #[.int .i64 oo, .int .i64 (rr + (k : Int)), .int .i64 y2, .int .i64 y3, .int .i64 y4], .bool true]) (by simp [results, Try.results12, go_sem, r0, r1, r2, g0, g1, g2, g3, g4]) rfl ?_
    rw [HQ3.out]
    unfold RetOF
    simp only [HLEN.out]
    have hne : (Value.slice (some ⟨g5, 0, none⟩) n c5).ownBlock ≠ some (w.heap.size + 2) := row_ne HOB.out HRB.out (by decide)
    have hne3 : (Value.slice (some ⟨g5, 0, none⟩) n c5).ownBlock ≠ some (w.heap.size + 3) := fun e => by injection e with e; have : g5 = w.heap.size + 3 := e; omega
    have hb8 := HBB.out
    refine ⟨_, c5, rfl, row_wider (row_drewN (row_set (row_set (row_set (row_set (row_set (row_set (row_set (row_set HOB.out _ _ hne) _ _ hne) _ _ hne) _ _ hne3) _ _ hne3) _ _ hne3) _ _ hne3) _ _ hne3) 1) (by omega), below_grown ?_, fun h => absurd h (by omega)⟩
    exact (((((((((hb8.setCell (by simp <;> omega) _).setCell (by simp <;> omega) _).setCell (by simp <;> omega) _).setCell (by simp <;> omega) _).setCell (by simp <;> omega) _).setCell (by simp <;> omega) _).setCell (by simp <;> omega) _).setCell (by simp <;> omega) _).drew)
end Go.Proofs.Ytalalapjanckdaa
/- SendOut of the reference. No condition but lists of at most 2^20 flows. -/
namespace Go.Proofs.Ytalalapjanckdaa
open Go.RowKit
set_option maxRecDepth 100000 in
set_option maxHeartbeats 8000000 in
theorem s_SendOut (oo rr : Int) (f : F5) (a : Option Addr) (n cap : Nat) (fs : List F5) (w : World) (hxs : fs.length = n) (hn : n ≤ 1048576) (h : Flws w a fs) (ha : a = none → n = 0 ∧ cap = 0) :
    Calls Try.prog 13 #[.agg #[.int .i64 oo, .int .i64 rr, .slice a n cap], fvv f] w (RetOF w (sendT (oo, rr, fs) f)) := by
  obtain ⟨y0, y1, y2, y3, y4⟩ := f
  unfold fvv
  obtain ⟨W, hW, gW, sW, bt, bf, br, bg⟩ := head4 w 25 27 25 27 [.int .i64 oo, .int .i64 rr, .slice a n cap] [.int .i64 y0, .int .i64 y1, .int .i64 y2, .int .i64 y3, .int .i64 y4] [.int .i64 0, .int .i64 0, .slice none 0 0] [.int .i64 0, .int .i64 0, .int .i64 0, .int .i64 0, .int .i64 0]
  have HX := Lib.hid hxs
  have HW := Lib.hid hW
  have HB1 := Lib.hid gW
  have hz1 : w.heap.size + 4 ≤ W.heap.size := by omega
  have HA := Lib.hid ha
  have HE1 := Lib.hid (h.below gW)
  have HT1 := Lib.hid bt
  have HF1 := Lib.hid bf
  have HR1 := Lib.hid br
  have HG1 := Lib.hid bg
  have HQ : Hid (sendT (oo, rr, fs) (y0, y1, y2, y3, y4) = if (ov oo rr fs && fv (y0, y1, y2, y3, y4)) = true then (if slT fs (y0, y1, y2, y3, y4) < 0 then ((oo, rr, fs), z5, false) else ((oo, rr, fs.set (slT fs (y0, y1, y2, y3, y4)).toNat (y0, y1, y2, y3, y4)), (oo, rr + slT fs (y0, y1, y2, y3, y4), y2, y3, y4), true)) else ((0, 0, []), z5, false)) := Lib.hid rfl
  clear hxs hW gW sW ha h bt bf br bg
  go_enter Try.func13, Try.ntmps13
  go_wp2_with fail
  rw [← HW.out]
  (refine (s_OutletValid oo rr a n cap fs _ HX.out hn HE1.out).mono ?_)
  rintro e w2 ⟨rfl, b2⟩
  have HB2 := Lib.hid (Below.step HB1.out b2 (by omega))
  have hz2 : w.heap.size + 4 ≤ w2.heap.size := by have := b2.size; omega
  have HT2 := Lib.hid (HT1.out.keep b2)
  have HF2 := Lib.hid (HF1.out.keep b2)
  have HR2 := Lib.hid (HR1.out.keep b2)
  have HG2 := Lib.hid (HG1.out.keep b2)
  have HE2 := Lib.hid (HE1.out.below b2)
  clear b2 HB1 HT1 HF1 HR1 HG1 HE1 hz1
  obtain ⟨t0, t1, t2, ft⟩ := HT2.out.three
  obtain ⟨r0, r1, r2, fr⟩ := HR2.out.three
  obtain ⟨f0, f1, f2, f3, f4, ff⟩ := HF2.out.five
  obtain ⟨g0, g1, g2, g3, g4, fg⟩ := HG2.out.five
  cases h1 : ov oo rr fs
  · have HZ := Lib.hid (HQ.out.trans (if_neg (by simp [h1])))
    clear HQ
    go_wp2
    refine bodyPost_ret (v := .tuple #[.agg #[.int .i64 0, .int .i64 0, .slice none 0 0], .agg #[.int .i64 0, .int .i64 0, .int .i64 0, .int .i64 0, .int .i64 0], .bool false]) (by simp [results, Try.results13, go_sem, r0, r1, r2, g0, g1, g2, g3, g4]) rfl ?_
    rw [HZ.out]
    refine retZeroOF w _ ?_
    have := HB2.out
    go_grown
  have HI1 := Lib.hid h1
  rw [h1, Bool.true_and] at HQ
  clear h1
  go_wp2_with fail
  (refine (s_FlowValid (y0, y1, y2, y3, y4) _).mono ?_)
  rintro e w3 ⟨rfl, b3⟩
  have HB3 := Lib.hid (Below.step HB2.out b3 (by omega))
  have hz3 : w.heap.size + 4 ≤ w3.heap.size := by have := b3.size; omega
  have HT3 := Lib.hid (HT2.out.keep b3)
  have HF3 := Lib.hid (HF2.out.keep b3)
  have HR3 := Lib.hid (HR2.out.keep b3)
  have HG3 := Lib.hid (HG2.out.keep b3)
  have HE3 := Lib.hid (HE2.out.below b3)
  clear b3 HB2 HT2 HF2 HR2 HG2 HE2 hz2 t0 t1 t2 ft r0 r1 r2 fr f0 f1 f2 f3 f4 ff g0 g1 g2 g3 g4 fg
  obtain ⟨t0, t1, t2, ft⟩ := HT3.out.three
  obtain ⟨r0, r1, r2, fr⟩ := HR3.out.three
  obtain ⟨f0, f1, f2, f3, f4, ff⟩ := HF3.out.five
  obtain ⟨g0, g1, g2, g3, g4, fg⟩ := HG3.out.five
  cases h2 : fv (y0, y1, y2, y3, y4)
  · have HZ := Lib.hid (HQ.out.trans (if_neg (by simp [h2])))
    clear HQ
    go_wp2
    refine bodyPost_ret (v := .tuple #[.agg #[.int .i64 0, .int .i64 0, .slice none 0 0], .agg #[.int .i64 0, .int .i64 0, .int .i64 0, .int .i64 0, .int .i64 0], .bool false]) (by simp [results, Try.results13, go_sem, r0, r1, r2, g0, g1, g2, g3, g4]) rfl ?_
    rw [HZ.out]
    refine retZeroOF w _ ?_
    have := HB3.out
    go_grown
  have HQ2 := Lib.hid (HQ.out.trans (if_pos h2))
  have hrr := inB_true.1 (ov_parts HI1.out).2.2.1
  have hnn := inB_true.1 (ov_parts HI1.out).2.1
  rw [HX.out] at hrr hnn
  clear HQ h2
  go_wp2_with fail
  (with_reducible refine (s_copy oo rr a n cap fs _ HX.out hn HE3.out HA.out).mono ?_)
  rintro e w5 ⟨a5, c5, rfl, o5, g5, hsm⟩
  rw [HX.out] at o5 ⊢
  have HB5 := Lib.hid (Below.step HB3.out (grown_below g5) (by omega))
  have hz5 := g5.size
  have HO5 := Lib.hid o5
  have LT5 := Lib.hid o5.lt
  have HF5 := Lib.hid (HF3.out.keep (grown_below g5))
  have HT5 := Lib.hid (HT3.out.keep (grown_below g5))
  have HR5 := Lib.hid (HR3.out.keep (grown_below g5))
  have HG5 := Lib.hid (HG3.out.keep (grown_below g5))
  have HE5 := Lib.hid (HE3.out.below (grown_below g5))
  clear o5 g5 t0 t1 t2 ft r0 r1 r2 fr f0 f1 f2 f3 f4 ff g0 g1 g2 g3 g4 fg HT3 HF3 HR3 HG3 HE3 HB3
  obtain ⟨f0, f1, f2, f3, f4, ff⟩ := HF5.out.five
  obtain ⟨t0, t1, t2, ft⟩ := HT5.out.three
  have hl5 : w.heap.size + 1 < w5.heap.size := by omega
  have hl6 : w.heap.size < w5.heap.size := by omega
  go_wp2_with fail
  clear f0 f1 f2 f3 f4 ff hl5 hl6 t0 t1 t2 ft
  obtain ⟨W6, hW6, gW6, sW6, bn⟩ := head1 w5 25 [.int .i64 oo, .int .i64 rr, .slice a5 n c5]
  have HW6 := Lib.hid hW6
  have HB6 := Lib.hid (Below.step HB5.out gW6 (by omega))
  have HS6 := Lib.hid sW6
  have HN6 := Lib.hid bn
  have HT6 := Lib.hid (HT5.out.keep gW6)
  have HF6 := Lib.hid (HF5.out.keep gW6)
  have HR6 := Lib.hid (HR5.out.keep gW6)
  have HG6 := Lib.hid (HG5.out.keep gW6)
  have HO6 : Hid (FlwRow W6 w3.heap.size a5 n c5 fs) := Lib.hid (row_below HO5.out gW6)
  have HE6 := Lib.hid (HE5.out.below gW6)
  clear hW6 gW6 sW6 bn HB5 HR5 HG5 HO5 HE5 HT5 HF5
  rw [← HW6.out]
  refine (s_Place oo rr (y0, y1, y2, y3, y4) a n cap fs _ HX.out hn HE6.out).mono ?_
  rintro e w7 ⟨rfl, b7⟩
  have hz7 := b7.size
  rw [HS6.out] at hz7
  have HB7 := Lib.hid (Below.step HB6.out b7 (by rw [HS6.out]; omega))
  have HN7 := Lib.hid (HN6.out.keep b7)
  have HT7 := Lib.hid (HT6.out.keep b7)
  have HF7 := Lib.hid (HF6.out.keep b7)
  have HR7 := Lib.hid (HR6.out.keep b7)
  have HG7 := Lib.hid (HG6.out.keep b7)
  have HO7 : Hid (FlwRow w7 w3.heap.size a5 n c5 fs) := Lib.hid (row_below HO6.out b7)
  have HE7 := Lib.hid (HE6.out.below b7)
  clear b7 HB6 HN6 HT6 HF6 HR6 HG6 HO6 HW6 HS6 HE6
  have HSL : Hid (slT fs (y0, y1, y2, y3, y4) = if qOf fs (y0, y1, y2, y3, y4) < 0 then qOf fs z5 else qOf fs (y0, y1, y2, y3, y4)) := Lib.hid rfl
  generalize qOf fs (y0, y1, y2, y3, y4) = pf at *
  go_upto_if 25 with fail
  go_cut [8] (fun s wx => s = .int .i64 (slT fs (y0, y1, y2, y3, y4)) ∧ Below w7.heap.size w7 wx)
  case first =>
    by_cases hp : pf < 0
    · have HZ := Lib.hid (HSL.out.trans (if_pos hp))
      obtain ⟨n0, n1, n2, fn⟩ := HN7.out.three
      obtain ⟨t0, t1, t2, ft⟩ := HT7.out.three
      clear HSL
      go_wp2_with fail
      refine (s_Place oo rr z5 a n cap fs _ HX.out hn HE7.out).mono ?_
      rintro e w8 ⟨rfl, b8⟩
      go_wp2_with fail
      go_meet
      exact ⟨by rw [HZ.out], b8⟩
    · have HZ := Lib.hid (HSL.out.trans (if_neg hp))
      clear HSL
      go_wp2_with fail
      go_meet
      exact ⟨by rw [HZ.out], Below.refl _ _⟩
  case rest =>
    obtain ⟨rfl, b8⟩ := hcut
    obtain ⟨w8, rfl⟩ : ∃ x, x = wc := ⟨_, rfl⟩
    have hz8 := b8.size
    have HB8 := Lib.hid (Below.step HB7.out b8 (by omega))
    have HN8 := Lib.hid (HN7.out.keep b8)
    have HT8 := Lib.hid (HT7.out.keep b8)
    have HF8 := Lib.hid (HF7.out.keep b8)
    have HR8 := Lib.hid (HR7.out.keep b8)
    have HG8 := Lib.hid (HG7.out.keep b8)
    have HO8 : Hid (FlwRow w8 w3.heap.size a5 n c5 fs) := Lib.hid (row_below HO7.out b8)
    clear b8 HB7 HN7 HT7 HF7 HR7 HG7 HO7 HE7 HSL
    obtain ⟨n0, n1, n2, fn⟩ := HN8.out.three
    obtain ⟨r0, r1, r2, fr⟩ := HR8.out.three
    obtain ⟨g0, g1, g2, g3, g4, fg⟩ := HG8.out.five
    have hln : w5.heap.size < w8.heap.size := by omega
    have hlr : w.heap.size + 2 < w8.heap.size := by omega
    have hlg : w.heap.size + 3 < w8.heap.size := by omega
    have hlf : w.heap.size + 1 < w8.heap.size := by omega
    have hlt : w.heap.size < w8.heap.size := by omega
    rcases slT_cases fs (y0, y1, y2, y3, y4) with hs | ⟨k, hs, hk⟩
    · have HQ3 : Hid (sendT (oo, rr, fs) (y0, y1, y2, y3, y4) = ((oo, rr, fs), z5, false)) := Lib.hid (by rw [HQ2.out, hs]; rfl)
      rw [hs]
      clear HQ2 hs
      go_wp2
      refine bodyPost_ret (v := .tuple #[.agg #[.int .i64 oo, .int .i64 rr, .slice a5 n c5], .agg #[.int .i64 0, .int .i64 0, .int .i64 0, .int .i64 0, .int .i64 0], .bool false]) (by simp [results, Try.results13, go_sem, r0, r1, r2, g0, g1, g2, g3, g4]) rfl ?_
      rw [HQ3.out]
      unfold RetOF
      simp only [HX.out]
      have hne : (Value.slice a5 n c5).ownBlock ≠ some (w.heap.size + 2) := row_ne HO8.out HR8.out (by decide)
      have hne3 : (Value.slice a5 n c5).ownBlock ≠ some (w.heap.size + 3) := fun e => by have := (LT5.out _ e).1; omega
      have hb8 := HB8.out
      refine ⟨a5, c5, rfl, row_wider (row_set (row_set (row_set (row_set (row_set (row_set (row_set (row_set HO8.out _ _ hne) _ _ hne) _ _ hne) _ _ hne3) _ _ hne3) _ _ hne3) _ _ hne3) _ _ hne3) (by omega), below_grown ?_, fun h => absurd h (by omega)⟩
      go_grown
    have hk' : k < n := by rw [← HX.out]; exact hk
    have HQ3 : Hid (sendT (oo, rr, fs) (y0, y1, y2, y3, y4) = ((oo, rr, fs.set k (y0, y1, y2, y3, y4)), (oo, rr + (k : Int), y2, y3, y4), true)) := Lib.hid (by rw [HQ2.out, hs, if_neg (by omega)]; rfl)
    rw [hs]
    clear HQ2 hs hk
    obtain ⟨g5, rfl, hg5a, hg5b⟩ : ∃ g, a5 = some ⟨g, 0, none⟩ ∧ w3.heap.size ≤ g ∧ g < w5.heap.size := by
      obtain ⟨g, c, hv, h1, h2⟩ := HO8.out.form (by omega)
      injection hv with hv
      exact ⟨g, hv, h1, (LT5.out g (by rw [hv]; rfl)).2⟩
    obtain ⟨f0, f1, f2, f3, f4, ff⟩ := HF8.out.five
    obtain ⟨⟨d0, d1, d2, d3, d4⟩, fd⟩ := HO8.out.cells (k := k) hk'
    have HPUT := Lib.hid (HO8.out.put (i := k) hk' (y0, y1, y2, y3, y4))
    have HLEN : Hid ((fs.set k (y0, y1, y2, y3, y4)).length = n) := Lib.hid (by rw [List.length_set, HX.out])
    generalize fs.getD k z5 = E2 at *
    obtain ⟨q0, q1, q2, q3, q4⟩ := E2
    dsimp only at d0 d1 d2 d3 d4
    clear r0 r1 r2 fr g0 g1 g2 g3 g4 fg
    go_upto_region 10 with fail
    obtain ⟨p1, p2⟩ := HPUT.out
    dsimp only at p1 p2
    obtain ⟨W9, hW9⟩ : ∃ W9, W9 = (((((w8.setCell ⟨g5, k * 5, none⟩ (.int .i64 y0)).setCell ⟨g5, k * 5 + 1, none⟩ (.int .i64 y1)).setCell ⟨g5, k * 5 + 2, none⟩ (.int .i64 y2)).setCell ⟨g5, k * 5 + 3, none⟩ (.int .i64 y3)).setCell ⟨g5, k * 5 + 4, none⟩ (.int .i64 y4)) := ⟨_, rfl⟩
    rw [← hW9] at p1 p2
    have HN9 := Lib.hid (HN8.out.kept p2 (by simp; omega))
    have HT9 := Lib.hid (HT8.out.kept p2 (by simp; omega))
    have HF9 := Lib.hid (HF8.out.kept p2 (by simp; omega))
    have HR9 := Lib.hid (HR8.out.kept p2 (by simp; omega))
    have HG9 := Lib.hid (HG8.out.kept p2 (by simp; omega))
    have HB9 := Lib.hid (HB8.out.grown p2 (by omega) (fun q hq => by cases hq; omega))
    have HO9 := Lib.hid p1
    have HW9 := Lib.hid hW9
    have hz9 := p2.size
    clear hW9 p1 p2 HPUT n0 n1 n2 fn d0 d1 d2 d3 d4 fd f0 f1 f2 f3 f4 ff HN8 HT8 HF8 HR8 HG8 HO8 HB8 hln hlr hlg hlf hlt
    rw [← HW9.out]
    clear HW9
    have hi1 : IntKind.i64.wrap (rr + (k : Int)) = rr + (k : Int) := IntWalk.i64_in _ (by omega)
    obtain ⟨n0, n1, n2, fn⟩ := HN9.out.three
    obtain ⟨t0, t1, t2, ft⟩ := HT9.out.three
    obtain ⟨f0, f1, f2, f3, f4, ff⟩ := HF9.out.five
    obtain ⟨r0, r1, r2, fr⟩ := HR9.out.three
    obtain ⟨g0, g1, g2, g3, g4, fg⟩ := HG9.out.five
    have hln : w5.heap.size < W9.heap.size := HN9.out.lt
    have hlt : w.heap.size < W9.heap.size := HT9.out.lt
    have hlf : w.heap.size + 1 < W9.heap.size := HF9.out.lt
    have hlr : w.heap.size + 2 < W9.heap.size := HR9.out.lt
    have hlg : w.heap.size + 3 < W9.heap.size := HG9.out.lt
    go_region
    go_wp2
    refine bodyPost_ret (v := .tuple #[.agg #[.int .i64 oo, .int .i64 rr, .slice (some ⟨g5, 0, none⟩) n c5], .agg #[.int .i64 oo, .int .i64 (rr + (k : Int)), .int .i64 y2, .int .i64 y3, .int .i64 y4], .bool true]) (by simp [results, Try.results13, go_sem, r0, r1, r2, g0, g1, g2, g3, g4]) rfl ?_
    rw [HQ3.out]
    unfold RetOF
    simp only [HLEN.out]
    have hne : (Value.slice (some ⟨g5, 0, none⟩) n c5).ownBlock ≠ some (w.heap.size + 2) := row_ne HO9.out HR9.out (by decide)
    have hne3 : (Value.slice (some ⟨g5, 0, none⟩) n c5).ownBlock ≠ some (w.heap.size + 3) := fun e => by injection e with e; have : g5 = w.heap.size + 3 := e; omega
    have hb8 := HB9.out
    refine ⟨_, c5, rfl, row_wider (row_drewN (row_set (row_set (row_set (row_set (row_set (row_set (row_set (row_set HO9.out _ _ hne) _ _ hne) _ _ hne) _ _ hne3) _ _ hne3) _ _ hne3) _ _ hne3) _ _ hne3) 1) (by omega), below_grown ?_, fun h => absurd h (by omega)⟩
    exact (((((((((hb8.setCell (by simp <;> omega) _).setCell (by simp <;> omega) _).setCell (by simp <;> omega) _).setCell (by simp <;> omega) _).setCell (by simp <;> omega) _).setCell (by simp <;> omega) _).setCell (by simp <;> omega) _).setCell (by simp <;> omega) _).drew)
end Go.Proofs.Ytalalapjanckdaa
