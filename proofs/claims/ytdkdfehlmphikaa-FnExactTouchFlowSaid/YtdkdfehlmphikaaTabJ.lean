/- ExpireTable of the program. No condition but lists of at most 2^20 entries. -/
import Derived.Test.YtdkdfehlmphikaaTabH
namespace Go.Proofs.Ytdkdfehlmphikaa
open Go.RowKit
/-- A table without the entries that are too old. -/
def expT (t : T3) (now : Int) : T3 := if (tv t.1 t.2.1 t.2.2 && fitB t.2.2 now) = true then (t.1, t.2.1, t.2.2.filter (fun e => !oldB now t.2.1 e)) else (0, 0, [])
theorem tv_last {sz st : Int} {es : List E7} (h : tv sz st es = true) {e : E7} (he : e ∈ es) : inB e.2.2 0 100000 = true := by
  obtain ⟨k, hk, rfl⟩ := List.getElem_of_mem he
  have := (tv_parts h).2.2.2 k hk
  simp only [eOk, Bool.and_eq_true] at this
  have h2 := this.1.2
  rw [List.getD_eq_getElem?_getD, List.getElem?_eq_getElem hk] at h2
  exact h2
theorem fit_now {es : List E7} {now : Int} (h : fitB es now = true) : inB now 0 100000 = true ∧ lastOf es ≤ now := by
  simp only [fitB, Bool.and_eq_true, decide_eq_true_eq] at h
  exact h
set_option maxRecDepth 100000 in
set_option maxHeartbeats 4000000 in
theorem c_ExpireTable (sz st now : Int) (a : Option Addr) (n cap : Nat) (es : List E7) (w : World) (hxs : es.length = n) (hn : n ≤ 1048576) (h : Ents w a es) (ha : a = none → n = 0 ∧ cap = 0) :
    Calls Try.prog 50 #[.agg #[.int .i64 sz, .int .i64 st, .slice a n cap], .int .i64 now] w (RetT w (expT (sz, st, es) now)) := by
  obtain ⟨W, hW, gW, sW, bt, bf, br⟩ := head3 w 30 3 30 [.int .i64 sz, .int .i64 st, .slice a n cap] [.int .i64 now] [.int .i64 0, .int .i64 0, .slice none 0 0]
  have HX := Lib.hid hxs
  have HW := Lib.hid hW
  have HG := Lib.hid gW
  have HS := Lib.hid sW
  have HA := Lib.hid ha
  have HE := Lib.hid (h.below gW)
  have HBT := Lib.hid bt
  have HBF := Lib.hid bf
  have HBR := Lib.hid br
  have HQ : Hid (expT (sz, st, es) now = if (tv sz st es && fitB es now) = true then (sz, st, es.filter (fun e => !oldB now st e)) else (0, 0, [])) := Lib.hid rfl
  clear hxs hW gW sW ha h bt bf br
  go_enter Try.func50, Try.ntmps50
  go_wp2_with fail
  rw [← HW.out]
  (with_reducible refine (c_TableValid sz st a n cap es _ HX.out hn HE.out).mono ?_)
  rintro e w2 ⟨rfl, hb2⟩
  have HB2 := Lib.hid hb2
  have hz2 := hb2.size
  rw [HS.out] at hz2
  have HT2 := Lib.hid (HBT.out.keep hb2)
  have HF2 := Lib.hid (HBF.out.keep hb2)
  have HR2 := Lib.hid (HBR.out.keep hb2)
  have HE2 := Lib.hid (HE.out.below hb2)
  clear hb2
  obtain ⟨t0, t1, t2, ft⟩ := HT2.out.three
  obtain ⟨r0, r1, r2, fr⟩ := HR2.out.three
  have f0 := HF2.out.cell 0
  cases h1 : tv sz st es
  · go_wp2
    refine bodyPost_ret (v := .agg #[.int .i64 0, .int .i64 0, .slice none 0 0]) (by simp [results, Try.results50, go_sem, r0, r1, r2]) rfl ?_
    rw [HQ.out, h1, Bool.false_and, if_neg Bool.false_ne_true]
    refine retZero w _ ?_
    have := Below.step HG.out HB2.out HG.out.size
    go_grown
  have HV := Lib.hid h1
  rw [h1, Bool.true_and] at HQ
  clear h1
  go_wp2_with fail
  (with_reducible refine (c_fits sz st now a n cap es _ HX.out hn HE2.out).mono ?_)
  rintro e w2' ⟨rfl, hbf⟩
  have HBF2 := Lib.hid hbf
  have hzf := hbf.size
  have HT2' := Lib.hid (HT2.out.keep hbf)
  have HF2' := Lib.hid (HF2.out.keep hbf)
  have HR2' := Lib.hid (HR2.out.keep hbf)
  have HE2' := Lib.hid (HE2.out.below hbf)
  have HB2' : Hid (Below W.heap.size W w2') := Lib.hid (Below.step HB2.out hbf HB2.out.size)
  clear hbf t0 t1 t2 ft r0 r1 r2 fr f0
  have hz2' : w.heap.size + 3 ≤ w2'.heap.size := by omega
  clear HT2 HF2 HR2 HE2 HB2 HBF2 hz2 hzf
  obtain ⟨w2, rfl⟩ : ∃ x, x = w2' := ⟨_, rfl⟩
  have HT2 := HT2'
  have HF2 := HF2'
  have HR2 := HR2'
  have HE2 := HE2'
  have HB2 := HB2'
  have hz2 := hz2'
  clear HT2' HF2' HR2' HE2' HB2' hz2'
  obtain ⟨t0, t1, t2, ft⟩ := HT2.out.three
  obtain ⟨r0, r1, r2, fr⟩ := HR2.out.three
  cases h1 : fitB es now
  · go_wp2
    refine bodyPost_ret (v := .agg #[.int .i64 0, .int .i64 0, .slice none 0 0]) (by simp [results, Try.results50, go_sem, r0, r1, r2]) rfl ?_
    rw [HQ.out, h1, if_neg Bool.false_ne_true]
    refine retZero w _ ?_
    have := Below.step HG.out HB2.out HG.out.size
    go_grown
  · have HQ2 := Lib.hid (HQ.out.trans (if_pos h1))
    have HNOW := Lib.hid (fit_now h1).1
    clear HQ h1
    go_wp2_with fail
    (with_reducible refine (c_clone sz st a n cap es _ HX.out hn HE2.out HA.out).mono ?_)
    rintro e w3 ⟨a3, c3, rfl, o3, g3⟩
    rw [HX.out] at o3 ⊢
    have HB3 := Lib.hid (grown_below g3)
    have hz3 := g3.size
    have HO3 := Lib.hid o3
    have LT3 := Lib.hid o3.lt
    have HT3 := Lib.hid (HT2.out.keep HB3.out)
    have HF3 := Lib.hid (HF2.out.keep HB3.out)
    have HR3 := Lib.hid (HR2.out.keep HB3.out)
    clear o3 g3 t0 t1 t2 ft r0 r1 r2 fr
    go_wp2_with fail
    obtain ⟨W4, hW4⟩ : ∃ W4, W4 = w3.alloc (.cells #[.int .i64 sz, .int .i64 st, .slice a3 n c3] 30) := ⟨_, rfl⟩
    have HW4 := Lib.hid hW4
    have HB4 : Hid (Below w3.heap.size w3 W4) := Lib.hid (by rw [hW4]; exact (Below.refl _ _).alloc (Nat.le_refl _) _)
    have HS4 : Hid (W4.heap.size = w3.heap.size + 1) := Lib.hid (by rw [hW4]; simp)
    have HN4 : Hid (Box W4 w3.heap.size 30 [.int .i64 sz, .int .i64 st, .slice a3 n c3]) := Lib.hid (by rw [hW4]; exact Box.new _ _ _)
    have HF4 := Lib.hid (HF3.out.keep HB4.out)
    have HR4 := Lib.hid (HR3.out.keep HB4.out)
    have HT4 := Lib.hid (HT3.out.keep HB4.out)
    have HO4 : Hid (EntRow W4 w2.heap.size a3 n c3 es) := Lib.hid (row_below HO3.out HB4.out)
    clear hW4
    rw [← HW4.out]
    have hbf : some (w.heap.size + 1) ≠ (Value.slice a3 n c3).ownBlock := fun e => by have := (LT3.out _ e.symm).1; omega
    have hbt : some w.heap.size ≠ (Value.slice a3 n c3).ownBlock := fun e => by have := (LT3.out _ e.symm).1; omega
    have HTS : Hid (Tests 90 #[.pointer (some ⟨w.heap.size + 1, 0, none⟩), .pointer (some ⟨w.heap.size, 0, none⟩)] (fun e => oldB now st e) es W4 (Value.slice a3 n c3).ownBlock) := Lib.hid fun e w' he hg => by
      exact c_expire1 _ _ _ _ _ _ _ now sz st _ _ _ _ (tv_last HV.out he) HNOW.out ((HF4.out.kept hg hbf.symm).cell 0) (HT4.out.kept hg hbt.symm)
    refine (c_DeleteE 90 _ _ w2.heap.size a3 n c3 es W4 hn HO4.out HTS.out (enters_of Try.func90 (by kernel_rfl) rfl)).mono ?_
    rintro e w5 ⟨rfl, e5, g5⟩
    have HNL := Lib.hid (none_len HO4.out (fun e => !oldB now st e))
    have hml : (es.filter (fun e => !oldB now st e)).length ≤ n := by rw [← HX.out]; exact List.length_filter_le _ _
    generalize es.filter (fun e => !oldB now st e) = ks at *
    obtain ⟨m, hm⟩ : ∃ m, m = ks.length := ⟨_, rfl⟩
    have HM := Lib.hid hm
    rw [← hm] at hml ⊢
    clear hm
    have HE5 := Lib.hid e5
    have hn3 : some w3.heap.size ≠ (Value.slice a3 n c3).ownBlock := fun e => by have := (LT3.out _ e.symm).2; omega
    have hr3 : some (w.heap.size + 2) ≠ (Value.slice a3 n c3).ownBlock := fun e => by have := (LT3.out _ e.symm).1; omega
    have HN5 := Lib.hid (HN4.out.kept g5 hn3.symm)
    have HR5 := Lib.hid (HR4.out.kept g5 hr3.symm)
    have HB5 : Hid (Below w2.heap.size w2 w5) := Lib.hid ((Below.step HB3.out HB4.out hz3).grown g5 (by rw [HS4.out]; omega) (fun g hg => (LT3.out g hg).1))
    have hz5 := g5.size
    rw [HS4.out] at hz5
    clear e5 g5
    obtain ⟨n0, n1, n2, fn⟩ := HN5.out.three
    go_wp2_with fail
    obtain ⟨W6, hW6⟩ : ∃ W6, W6 = w5.setCell ⟨w3.heap.size, 2, none⟩ (.slice a3 m c3) := ⟨_, rfl⟩
    have HW6 := Lib.hid hW6
    have HR6 : Hid (Box W6 (w.heap.size + 2) 30 [.int .i64 0, .int .i64 0, .slice none 0 0]) := Lib.hid (by rw [hW6]; exact HR5.out.other (by simp; omega) _)
    have HB6 : Hid (Below w2.heap.size w2 W6) := Lib.hid (by rw [hW6]; exact HB5.out.setCell (by simpa using hz3) _)
    have HE6 : Hid (Ents W6 a3 ks) := Lib.hid (by
      rw [hW6]
      refine Ints.set HE5.out _ _ fun q hq => ?_
      have := (LT3.out q.block (by rw [hq]; rfl)).2
      simp; omega)
    have hz6 : W6.heap.size = w5.heap.size := by rw [hW6]; simp
    clear hW6 n0 n1 n2 fn
    rw [← HW6.out]
    (with_reducible refine (c_clone sz st a3 m c3 ks _ HM.out.symm (by omega) HE6.out (by rw [HM.out]; exact HNL.out)).mono ?_)
    rintro e w7 ⟨a7, c7, rfl, o7, g7⟩
    have HO7 := Lib.hid o7
    have HB7 := Lib.hid (grown_below g7)
    have hz7 := g7.size
    obtain ⟨r0, r1, r2, fr⟩ := (HR6.out.keep HB7.out).three
    clear o7 g7
    go_wp2
    refine bodyPost_ret (v := .agg #[.int .i64 sz, .int .i64 st, .slice a7 ks.length c7]) (by simp [results, Try.results50, go_sem, r0, r1, r2]) rfl ?_
    rw [HQ2.out]
    have hne : (Value.slice a7 ks.length c7).ownBlock ≠ some (w.heap.size + 2) := fun e => by have := (HO7.out.lt _ e).1; omega
    have hb7 : Below w.heap.size w w7 := Below.step (Below.step (Below.step HG.out HB2.out HG.out.size) HB6.out (by omega)) HB7.out (by omega)
    refine ⟨a7, c7, rfl, row_wider (row_set (row_set (row_set HO7.out _ _ hne) _ _ hne) _ _ hne) (by omega), below_grown ?_⟩
    go_grown
end Go.Proofs.Ytdkdfehlmphikaa
