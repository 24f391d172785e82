/- CloseOut of the program and of the reference. No condition but lists of at most 2^20 flows. -/
import Derived.Test.YtalalapjanckdaaOutC
namespace Go.Proofs.Ytalalapjanckdaa
open Go.RowKit
/-- An outlet: outside, first, slots. -/
abbrev O3 := Int × Int × List F5
/-- An outlet without a flow. -/
def closeT (t : O3) (f : F5) : O3 := if ov t.1 t.2.1 t.2.2 = true then (t.1, t.2.1, if 0 ≤ qOf t.2.2 f then t.2.2.set (qOf t.2.2 f).toNat z5 else t.2.2) else (0, 0, [])
/-- An outlet is handed back, its list a new one. -/
def RetO (w : World) (t : O3) (e : Ending) (w' : World) : Prop := RetOut w t.1 t.2.1 t.2.2 e w'
theorem retZeroO (w w' : World) (h : Below w.heap.size w w') : RetO w (0, 0, []) (.returned (.agg #[.int .i64 0, .int .i64 0, .slice none 0 0])) w' :=
  ⟨none, 0, rfl, row_nil _ _ _ _, below_grown h⟩
set_option maxRecDepth 100000 in
set_option maxHeartbeats 4000000 in
theorem c_CloseOut (oo rr : Int) (f : F5) (a : Option Addr) (n cap : Nat) (fs : List F5) (w : World) (hxs : fs.length = n) (hn : n ≤ 1048576) (h : Flws w a fs) (ha : a = none → n = 0 ∧ cap = 0) :
    Calls Try.prog 20 #[.agg #[.int .i64 oo, .int .i64 rr, .slice a n cap], fvv f] w (RetO w (closeT (oo, rr, fs) f)) := by
  obtain ⟨y0, y1, y2, y3, y4⟩ := f
  unfold fvv
  obtain ⟨W, hW, gW, sW, bt, bf, br⟩ := head3 w 25 27 25 [.int .i64 oo, .int .i64 rr, .slice a n cap] [.int .i64 y0, .int .i64 y1, .int .i64 y2, .int .i64 y3, .int .i64 y4] [.int .i64 0, .int .i64 0, .slice none 0 0]
  have HX := Lib.hid hxs
  have HW := Lib.hid hW
  have HB1 := Lib.hid gW
  have hz1 : w.heap.size + 3 ≤ W.heap.size := by omega
  have HA := Lib.hid ha
  have HE1 := Lib.hid (h.below gW)
  have HT1 := Lib.hid bt
  have HF1 := Lib.hid bf
  have HR1 := Lib.hid br
  have HQ : Hid (closeT (oo, rr, fs) (y0, y1, y2, y3, y4) = if ov oo rr fs = true then (oo, rr, if 0 ≤ qOf fs (y0, y1, y2, y3, y4) then fs.set (qOf fs (y0, y1, y2, y3, y4)).toNat z5 else fs) else (0, 0, [])) := Lib.hid rfl
  clear hxs hW gW sW ha h bt bf br
  go_enter Try.func20, Try.ntmps20
  go_wp2_with fail
  rw [← HW.out]
  (with_reducible refine (c_OutletValid oo rr a n cap fs _ HX.out hn HE1.out).mono ?_)
  rintro e w2 ⟨rfl, b2⟩
  have HB2 := Lib.hid (Below.step HB1.out b2 (by omega))
  have hz2 : w.heap.size + 3 ≤ w2.heap.size := by have := b2.size; omega
  have HT2 := Lib.hid (HT1.out.keep b2)
  have HF2 := Lib.hid (HF1.out.keep b2)
  have HR2 := Lib.hid (HR1.out.keep b2)
  have HE2 := Lib.hid (HE1.out.below b2)
  clear b2 HB1 HT1 HF1 HR1 HE1 hz1
  obtain ⟨t0, t1, t2, ft⟩ := HT2.out.three
  obtain ⟨r0, r1, r2, fr⟩ := HR2.out.three
  cases h1 : ov oo rr fs
  · have HZ := Lib.hid (HQ.out.trans (by rw [h1, if_neg Bool.false_ne_true]))
    clear HQ
    go_wp2
    refine bodyPost_ret (v := .agg #[.int .i64 0, .int .i64 0, .slice none 0 0]) (by simp [results, Try.results20, go_sem, r0, r1, r2]) rfl ?_
    rw [HZ.out]
    refine retZeroO w _ ?_
    have := HB2.out
    go_grown
  have HQ2 := Lib.hid (HQ.out.trans (if_pos h1))
  clear HQ
  go_wp2_with fail
  (with_reducible refine (c_clone oo rr a n cap fs _ HX.out hn HE2.out HA.out).mono ?_)
  rintro e w5 ⟨a5, c5, rfl, o5, g5⟩
  rw [HX.out] at o5 ⊢
  have HB5 := Lib.hid (Below.step HB2.out (grown_below g5) (by omega))
  have hz5 := g5.size
  have HO5 := Lib.hid o5
  have LT5 := Lib.hid o5.lt
  have HF5 := Lib.hid (HF2.out.keep (grown_below g5))
  have HT5 := Lib.hid (HT2.out.keep (grown_below g5))
  have HR5 := Lib.hid (HR2.out.keep (grown_below g5))
  have HE5 := Lib.hid (HE2.out.below (grown_below g5))
  clear o5 g5 t0 t1 t2 ft r0 r1 r2 fr HT2 HF2 HR2 HE2 HB2
  obtain ⟨f0, f1, f2, f3, f4, ff⟩ := HF5.out.five
  obtain ⟨t0, t1, t2, ft⟩ := HT5.out.three
  have hl5 : w.heap.size + 1 < w5.heap.size := by omega
  have hl6 : w.heap.size < w5.heap.size := by omega
  go_wp2_with fail
  clear f0 f1 f2 f3 f4 ff hl5 hl6 t0 t1 t2 ft
  obtain ⟨W6, hW6, gW6, sW6, bn⟩ := head1 w5 25 [.int .i64 oo, .int .i64 rr, .slice a5 n c5]
  have HW6 := Lib.hid hW6
  have HB6 := Lib.hid (Below.step HB5.out gW6 (by omega))
  have HS6 := Lib.hid sW6
  have HN6 := Lib.hid bn
  have HR6 := Lib.hid (HR5.out.keep gW6)
  have HO6 : Hid (FlwRow W6 w2.heap.size a5 n c5 fs) := Lib.hid (row_below HO5.out gW6)
  have HE6 := Lib.hid (HE5.out.below gW6)
  clear hW6 gW6 sW6 bn HB5 HR5 HO5 HE5 HT5 HF5
  rw [← HW6.out]
  refine (c_Index (y0, y1, y2, y3, y4) a5 n c5 fs _ HX.out hn HO6.out.flws).mono ?_
  rintro e w7 ⟨rfl, b7⟩
  have hz7 := b7.size
  rw [HS6.out] at hz7
  have HB7 := Lib.hid (Below.step HB6.out b7 (by rw [HS6.out]; omega))
  have HN7 := Lib.hid (HN6.out.keep b7)
  have HR7 := Lib.hid (HR6.out.keep b7)
  have HO7 : Hid (FlwRow w7 w2.heap.size a5 n c5 fs) := Lib.hid (row_below HO6.out b7)
  clear b7 HB6 HN6 HR6 HO6 HW6 HS6 HE6
  rcases qOf_cases fs (y0, y1, y2, y3, y4) with ⟨_, hpo⟩ | ⟨_, k, hpo, hk, _, _⟩
  · have HQ3 : Hid (closeT (oo, rr, fs) (y0, y1, y2, y3, y4) = (oo, rr, fs)) := Lib.hid (by rw [HQ2.out, hpo]; rfl)
    rw [hpo]
    clear HQ2 hpo
    obtain ⟨n0, n1, n2, fn⟩ := HN7.out.three
    obtain ⟨r0, r1, r2, fr⟩ := HR7.out.three
    go_wp2
    refine bodyPost_ret (v := .agg #[.int .i64 oo, .int .i64 rr, .slice a5 n c5]) (by simp [results, Try.results20, go_sem, r0, r1, r2]) rfl ?_
    rw [HQ3.out]
    unfold RetO RetOut
    simp only [HX.out]
    have hne : (Value.slice a5 n c5).ownBlock ≠ some (w.heap.size + 2) := row_ne HO7.out HR7.out (by decide)
    have hb7 := HB7.out
    refine ⟨a5, c5, rfl, row_wider (row_set (row_set (row_set HO7.out _ _ hne) _ _ hne) _ _ hne) (by omega), below_grown ?_⟩
    go_grown
  · have hk' : k < n := by rw [← HX.out]; exact hk
    have HQ3 : Hid (closeT (oo, rr, fs) (y0, y1, y2, y3, y4) = (oo, rr, fs.set k z5)) := Lib.hid (by rw [HQ2.out, hpo, if_pos (by omega)]; rfl)
    rw [hpo]
    clear HQ2 hpo hk
    obtain ⟨g5, rfl, hg5a, hg5b⟩ : ∃ g, a5 = some ⟨g, 0, none⟩ ∧ w2.heap.size ≤ g ∧ g < w5.heap.size := by
      obtain ⟨g, c, hv, h1, h2⟩ := HO7.out.form (by omega)
      injection hv with hv
      exact ⟨g, hv, h1, (LT5.out g (by rw [hv]; rfl)).2⟩
    obtain ⟨n0, n1, n2, fn⟩ := HN7.out.three
    obtain ⟨r0, r1, r2, fr⟩ := HR7.out.three
    obtain ⟨⟨d0, d1, d2, d3, d4⟩, fd⟩ := HO7.out.cells (k := k) hk'
    have HPUT := Lib.hid (HO7.out.put (i := k) hk' z5)
    have HLEN : Hid ((fs.set k z5).length = n) := Lib.hid (by rw [List.length_set, HX.out])
    generalize fs.getD k z5 = E2 at *
    obtain ⟨q0, q1, q2, q3, q4⟩ := E2
    dsimp only at d0 d1 d2 d3 d4
    have hx1 : ¬ g5 = w5.heap.size := by omega
    have hx2 : ¬ w5.heap.size = g5 := by omega
    have hx3 : ¬ g5 = w.heap.size + 2 := by omega
    have hx4 : ¬ w.heap.size + 2 = g5 := by omega
    have hx5 : ¬ w.heap.size + 2 = w5.heap.size := by omega
    have hl7 : w5.heap.size < w7.heap.size := by omega
    have hl8 : w.heap.size + 2 < w7.heap.size := by omega
    have hl9 : g5 < w7.heap.size := by omega
    clear r0 r1 r2 fr
    go_upto_region 7 with fail
    obtain ⟨p1, p2⟩ := HPUT.out
    unfold z5 at p1 p2
    dsimp only at p1 p2
    obtain ⟨W8, hW8⟩ : ∃ W8, W8 = (((((w7.setCell ⟨g5, k * 5, none⟩ (.int .i64 0)).setCell ⟨g5, k * 5 + 1, none⟩ (.int .i64 0)).setCell ⟨g5, k * 5 + 2, none⟩ (.int .i64 0)).setCell ⟨g5, k * 5 + 3, none⟩ (.int .i64 0)).setCell ⟨g5, k * 5 + 4, none⟩ (.int .i64 0)) := ⟨_, rfl⟩
    rw [← hW8] at p1 p2
    have HN8 := Lib.hid (HN7.out.kept p2 (by simp; omega))
    have HR8 := Lib.hid (HR7.out.kept p2 (by simp; omega))
    have HB8 := Lib.hid (HB7.out.grown p2 (by omega) (fun q hq => by cases hq; omega))
    have HO8 := Lib.hid p1
    have HW8 := Lib.hid hW8
    have hz8 := p2.size
    clear hW8 p1 p2 HPUT n0 n1 n2 fn d0 d1 d2 d3 d4 fd HN7 HR7 HO7 HB7 hx1 hx2
    rw [← HW8.out]
    clear HW8
    obtain ⟨n0, n1, n2, fn⟩ := HN8.out.three
    obtain ⟨r0, r1, r2, fr⟩ := HR8.out.three
    go_wp2
    refine bodyPost_ret (v := .agg #[.int .i64 oo, .int .i64 rr, .slice (some ⟨g5, 0, none⟩) n c5]) (by simp [results, Try.results20, go_sem, r0, r1, r2]) rfl ?_
    have hne : (Value.slice (some ⟨g5, 0, none⟩) n c5).ownBlock ≠ some (w.heap.size + 2) := fun e => hx3 (by injection e)
    rw [HQ3.out]
    unfold RetO RetOut
    simp only [HLEN.out]
    have hb8 := HB8.out
    refine ⟨_, c5, rfl, row_wider (row_set (row_set (row_set HO8.out _ _ hne) _ _ hne) _ _ hne) (by omega), below_grown ?_⟩
    go_grown
end Go.Proofs.Ytalalapjanckdaa
