/- DropFlow of the reference: the walk. No condition but lists of at most 2^20 entries. -/
import Derived.Test.YtdkdfehlmphikaaTabH
namespace Go.Proofs.Ytdkdfehlmphikaa
open Go.RowKit
/-- .. and it is not nil. -/
def RetTN (w : World) (t : T3) (e : Ending) (w' : World) : Prop := RetTab w t.1 t.2.1 t.2.2 e w'
set_option maxRecDepth 100000 in
set_option maxHeartbeats 8000000 in
theorem s_DropFlow (sz st : Int) (f : F5) (a : Option Addr) (n cap : Nat) (es : List E7) (w : World) (hxs : es.length = n) (hn : n ≤ 1048576) (hcap : n ≤ cap) (h : Ents w a es) (ha : a = none → n = 0 ∧ cap = 0) :
    Calls Try.prog 48 #[.agg #[.int .i64 sz, .int .i64 st, .slice a n cap], fvv f] w (RetT w (dropT (sz, st, es) f)) := by
  obtain ⟨y0, y1, y2, y3, y4⟩ := f
  unfold fvv
  obtain ⟨W, hW, gW, sW, bt, bf, br⟩ := head3 w 30 37 30 [.int .i64 sz, .int .i64 st, .slice a n cap] [.int .i64 y0, .int .i64 y1, .int .i64 y2, .int .i64 y3, .int .i64 y4] [.int .i64 0, .int .i64 0, .slice none 0 0]
  have HX := Lib.hid hxs
  have HW := Lib.hid hW
  have HG := Lib.hid gW
  have HS := Lib.hid sW
  have HA := Lib.hid ha
  have HE := Lib.hid (h.below gW)
  have HBT := Lib.hid bt
  have HBF := Lib.hid bf
  have HBR := Lib.hid br
  have HQ : Hid (dropT (sz, st, es) (y0, y1, y2, y3, y4) = if tv sz st es = true then (sz, st, es.filter (fun e => !decide (e.1 = (y0, y1, y2, y3, y4)))) else (0, 0, [])) := Lib.hid rfl
  clear hxs hW gW sW ha h bt bf br
  go_enter Try.func48, Try.ntmps48
  go_wp2_with fail
  rw [← HW.out]
  (with_reducible refine (s_TableValid sz st a n cap es _ HX.out hn hcap HE.out).mono ?_)
  rintro e w2 ⟨rfl, hb2⟩
  have HB2 := Lib.hid hb2
  have hz2 := hb2.size
  rw [HS.out] at hz2
  have HT2 := Lib.hid (HBT.out.keep hb2)
  have HF2 := Lib.hid (HBF.out.keep hb2)
  have HR2 := Lib.hid (HBR.out.keep hb2)
  have HE2 := Lib.hid (HE.out.below hb2)
  clear hb2
  obtain ⟨t0, t1, t2, ft⟩ := HT2.out.three
  obtain ⟨r0, r1, r2, fr⟩ := HR2.out.three
  cases h1 : tv sz st es
  · go_wp2
    refine bodyPost_ret (v := .agg #[.int .i64 0, .int .i64 0, .slice none 0 0]) (by simp [results, Try.results48, go_sem, r0, r1, r2]) rfl ?_
    rw [HQ.out, h1, if_neg Bool.false_ne_true]
    refine retZero w _ ?_
    have := Below.step HG.out HB2.out HG.out.size
    go_grown
  · have HQ2 := Lib.hid (HQ.out.trans (if_pos h1))
    have HV := Lib.hid h1
    clear HQ h1
    go_wp2_with fail
    (with_reducible refine (s_copy sz st a n cap es _ HX.out hn HE2.out HA.out).mono ?_)
    rintro e w3 ⟨a3, c3, rfl, o3, g3, hs3⟩
    rw [HX.out] at o3 ⊢
    have HB3 := Lib.hid (grown_below g3)
    have hz3 := g3.size
    have HO3 := Lib.hid o3
    have LT3 := Lib.hid o3.lt
    have HT3 := Lib.hid (HT2.out.keep HB3.out)
    have HF3 := Lib.hid (HF2.out.keep HB3.out)
    have HR3 := Lib.hid (HR2.out.keep HB3.out)
    have HE3 := Lib.hid (HE2.out.below HB3.out)
    clear o3 g3 t0 t1 t2 ft r0 r1 r2 fr
    obtain ⟨t0, t1, t2, ft⟩ := HT3.out.three
    obtain ⟨f0, f1, f2, f3, f4, ff⟩ := HF3.out.five
    have hl0 : w.heap.size < w3.heap.size := by omega
    have hl1 : w.heap.size + 1 < w3.heap.size := by omega
    go_wp2_with fail
    clear t0 t1 t2 ft f0 f1 f2 f3 f4 ff
    obtain ⟨W4, hW4⟩ : ∃ W4, W4 = w3.alloc (.cells #[.int .i64 sz, .int .i64 st, .slice a3 n c3] 30) := ⟨_, rfl⟩
    have HW4 := Lib.hid hW4
    have HB4 : Hid (Below w3.heap.size w3 W4) := Lib.hid (by rw [hW4]; exact (Below.refl _ _).alloc (Nat.le_refl _) _)
    have HS4 : Hid (W4.heap.size = w3.heap.size + 1) := Lib.hid (by rw [hW4]; simp)
    have HNW : Hid (Box W4 w3.heap.size 30 [.int .i64 sz, .int .i64 st, .slice a3 n c3]) := Lib.hid (by rw [hW4]; exact Box.new _ _ _)
    clear hW4
    rw [← HW4.out]
    refine (c_place (y0, y1, y2, y3, y4) a n cap es _ HX.out hn (HE3.out.below HB4.out)).mono ?_
    rintro e wo ⟨rfl, hbo⟩
    have HBO := Lib.hid hbo
    have HN4 : Hid (Box wo w3.heap.size 30 [.int .i64 sz, .int .i64 st, .slice a3 n c3]) := Lib.hid (HNW.out.keep hbo)
    have HR4 := Lib.hid ((HR3.out.keep HB4.out).keep hbo)
    have HT4 := Lib.hid ((HT3.out.keep HB4.out).keep hbo)
    have HO4 : Hid (EntRow wo w2.heap.size a3 n c3 es) := Lib.hid (row_below (row_below HO3.out HB4.out) hbo)
    have HE4 := Lib.hid ((HE3.out.below HB4.out).below hbo)
    have HB2o : Hid (Below w2.heap.size w2 wo) := Lib.hid (Below.step (Below.step HB3.out HB4.out hz3) hbo (by rw [HS4.out]; omega))
    have hzo := hbo.size
    rw [HS4.out] at hzo
    clear hbo
    rcases pOf_cases es (y0, y1, y2, y3, y4) with ⟨hno, hpo⟩ | ⟨hyes, k, hpo, hk, hkf, _⟩
    · rw [hpo]
      have HNO := Lib.hid (drop_no hno)
      clear hno hpo
      obtain ⟨n0, n1, n2, fn⟩ := HN4.out.three
      obtain ⟨r0, r1, r2, fr⟩ := HR4.out.three
      go_wp2
      refine bodyPost_ret (v := .agg #[.int .i64 sz, .int .i64 st, .slice a3 n c3]) (by simp [results, Try.results48, go_sem, r0, r1, r2]) rfl ?_
      rw [HQ2.out, HNO.out]
      have hne : (Value.slice a3 n c3).ownBlock ≠ some (w.heap.size + 2) := fun e => by have := (LT3.out _ e).1; omega
      have hb7 : Below w.heap.size w wo := Below.step (Below.step HG.out HB2.out HG.out.size) HB2o.out (by omega)
      have hx := HX.out
      subst hx
      refine ⟨a3, c3, rfl, row_wider (row_set (row_set (row_set HO4.out _ _ hne) _ _ hne) _ _ hne) (by omega), below_grown ?_⟩
      go_grown
    · rw [hpo]
      have HDR := Lib.hid (drop_at HV.out hk hkf)
      have hk' : k < n := by rw [← HX.out]; exact hk
      clear hyes hpo hkf hk
      obtain ⟨b, off, rfl, hb, _⟩ := HE4.out.at HX.out hk'
      have HAP : Hid (eCells (es.take k) ++ eCells (es.drop (k + 1)) = eCells (es.take k ++ es.drop (k + 1))) := Lib.hid (by unfold eCells; rw [eInts_app, List.map_append])
      have HLT := Lib.hid (show (eCells (es.take k)).length = k * 7 by rw [List.length_map, eInts_len, List.length_take, HX.out]; congr 1; omega)
      have HLD := Lib.hid (show (eCells (es.drop (k + 1))).length = (n - (k + 1)) * 7 by rw [List.length_map, eInts_len, List.length_drop, HX.out])
      have VT := Lib.hid (Ints.vals (HE4.out.take k))
      have VD := Lib.hid (Ints.vals (HE4.out.drop (k + 1)))
      obtain ⟨x0, x1, x2, fx⟩ := HT4.out.three
      clear x0 x1 fx
      have hkc : k ≤ cap := by omega
      have hkc1 : k + 1 ≤ cap := by omega
      have hs1 : (0 : Int) ≤ (k : Int) + 1 := by omega
      have hs2 : (k : Int) + 1 ≤ (n : Int) := by omega
      have hs3 : ((k : Int) + 1).toNat = k + 1 := by omega
      have hs4 : (k : Int) + 1 ≤ (cap : Int) := by omega
      have hs5 : (k : Int) ≤ (cap : Int) := by omega
      have hi1 : IntKind.i64.wrap ((k : Int) + 1) = (k : Int) + 1 := IntWalk.i64_in _ (by omega)
      have hl2 : w.heap.size < wo.heap.size := by omega
      have hl3 : w3.heap.size < wo.heap.size := HN4.out.lt
      have H1 : Hid ((wo.alloc (.cells #[] 69)).drew.ownsRow wo.heap.size 69 7 (.slice (some ⟨wo.heap.size, 0, none⟩) 0 0) 0 []) := Lib.hid (row_emp wo _ _ _ rfl (Nat.le_refl _)).drew
      have A1 : Hid (Below wo.heap.size wo (wo.alloc (.cells #[] 69)).drew) := Lib.hid ((Below.refl _ _).alloc (Nat.le_refl _) _).drew
      by_cases hkn : cap = k + 1
      · obtain rfl : n = k + 1 := by omega
        subst hkn
        have hs6 : (k : Int) ≤ (k : Int) + 1 := by omega
        have VD2 : Hid (Vals wo (some ⟨b, off, none⟩) (eCells (es.drop (k + 1)))) := Lib.hid (by
          have : es.drop (k + 1) = [] := List.drop_eq_nil_iff.2 (by rw [HX.out]; omega)
          rw [this]; exact .inl rfl)
        go_wp2_with fail
        have HL0 := Lib.hid (show (eCells (es.drop (k + 1))).length = 0 * 7 by rw [HLD.out]; omega)
        go_region_held3 (fun w' => w'.cell? ⟨w.heap.size, 2, none⟩ = some (.slice (some ⟨b, off, none⟩) (k + 1) (k + 1))) (first | (with_reducible exact keepD0 x2) | (with_reducible exact keepD1 x2 _) | (with_reducible exact kk5) | (with_reducible exact kk6) | (with_reducible exact keepS1 kk6 (by omega)) | (trace "KEEP"; trace_state; fail))
          (first
            | (refine step_appA _ rfl elemEntry (.tmp 19) (.tmp 23) rfl wo.heap.size (.slice (some ⟨wo.heap.size, 0, none⟩) 0 0) 0 [] rfl H1.out (some ⟨b, off, none⟩) k (k + 1) (eCells (es.take k)) rfl (Vals.below VT.out A1.out) HLT.out (ints_one _) (fun h => by cases h) (by omega) (by simp) k (Nat.zero_add k) (eCells (es.take k)) rfl ?_
               intro a5 c5 w5 hown5 hgrow5 hat5
               have HO5 := Lib.hid hown5
               have HB5 : Hid (Below wo.heap.size wo w5) := Lib.hid (A1.out.grown hgrow5 (by simp) (by simp [Value.ownBlock]))
               have HM5 : Hid (wo.heap.size + 1 ≤ w5.heap.size) := Lib.hid (by have := hgrow5.size; simpa using this)
               have HZ5 : Hid (∃ g, a5 = some ⟨g, 0, none⟩) := Lib.hid (by
                 rcases hat5 with h | h
                 · exact ⟨_, own_some hown5 (h.trans rfl)⟩
                 · exact ⟨_, own_some hown5 h⟩)
               have kk5 : w5.cell? ⟨w.heap.size, 2, none⟩ = some (.slice (some ⟨b, off, none⟩) (k + 1) (k + 1)) := hgrow5.cell (keep x2 _) (by simp [Value.ownBlock]; omega))
            | (refine step_appA _ rfl elemEntry (.tmp 24) (.tmp 29) rfl wo.heap.size (.slice a5 k c5) k (eCells (es.take k)) rfl HO5.out (some ⟨b, off, none⟩) 0 0 (eCells (es.drop (k + 1))) rfl (Vals.below VD2.out HB5.out) HL0.out (ints_one _) (fun h => by cases h) (by omega) HB5.out.size ((k + 1) - 1) (by omega) (eCells (es.take k ++ es.drop (k + 1))) HAP.out ?_
               intro a6 c6 w6 hown6 hgrow6 hat6
               have HO6 := Lib.hid hown6
               have HB6 : Hid (Below wo.heap.size wo w6) := Lib.hid (HB5.out.grown hgrow6 HB5.out.size (fun g hg => (HO5.out.lt g hg).1))
               have HZ6 : Hid (∃ g, a6 = some ⟨g, 0, none⟩) := Lib.hid (by
                 obtain ⟨g5, rfl⟩ := HZ5.out
                 rcases hat6 with h | h
                 · exact ⟨_, own_some hown6 (h.trans rfl)⟩
                 · exact ⟨_, own_some hown6 h⟩)
               have HN6 : Hid (Box w6 w3.heap.size 30 [.int .i64 sz, .int .i64 st, .slice a3 (k + 1) c3]) := Lib.hid (HN4.out.keep HB6.out)
               obtain ⟨m0, m1, m2, mf⟩ := HN6.out.three
               have kk6 : w6.cell? ⟨w.heap.size, 2, none⟩ = some (.slice (some ⟨b, off, none⟩) (k + 1) (k + 1)) := (HB6.out.cell (p := ⟨w.heap.size, 2, none⟩) (by show w.heap.size < _; omega)).trans x2))
        obtain ⟨r0, r1, r2, fr⟩ := (HR4.out.keep HB6.out).three
        have hz6 := HB6.out.size
        have hlr : w.heap.size + 2 < w6.heap.size := by omega
        have hnr : ¬ w.heap.size + 2 = w3.heap.size := by omega
        have hnr2 : ¬ w3.heap.size = w.heap.size + 2 := by omega
        go_wp2_with fail
        refine bodyPost_ret (v := .agg #[.int .i64 sz, .int .i64 st, .slice a6 ((k + 1) - 1) c6]) (by simp [results, Try.results48, go_sem, r0, r1, r2]) rfl ?_
        rw [HQ2.out, HDR.out]
        have hne1 : (Value.slice a6 ((k + 1) - 1) c6).ownBlock ≠ some (w.heap.size + 2) := fun e => by have := (HO6.out.lt _ e).1; omega
        have hne2 : (Value.slice a6 ((k + 1) - 1) c6).ownBlock ≠ some w3.heap.size := fun e => by have := (HO6.out.lt _ e).1; omega
        have hb7 : Below w.heap.size w w6 := Below.step (Below.step (Below.step HG.out HB2.out HG.out.size) HB2o.out (by omega)) HB6.out (by omega)
        have hlen : (es.take k ++ es.drop (k + 1)).length = (k + 1) - 1 := by rw [List.length_append, List.length_take, List.length_drop, HX.out]; omega
        rw [← hlen]
        rw [← hlen] at HO6 hne1 hne2
        refine ⟨a6, c6, rfl, ?_, below_grown ?_⟩
        · exact row_wider (row_set (row_set (row_set (row_set HO6.out _ _ hne2) _ _ hne1) _ _ hne1) _ _ hne1) (by omega)
        · go_grown
      · go_wp2_with fail
        go_region_held3 (fun w' => w'.cell? ⟨w.heap.size, 2, none⟩ = some (.slice (some ⟨b, off, none⟩) n cap)) (first | (with_reducible exact keepD0 x2) | (with_reducible exact keepD1 x2 _) | (with_reducible exact kk5) | (with_reducible exact kk6) | (with_reducible exact keepS1 kk6 (by omega)) | (trace "KEEP"; trace_state; fail))
          (first
            | (refine step_appA _ rfl elemEntry (.tmp 19) (.tmp 23) rfl wo.heap.size (.slice (some ⟨wo.heap.size, 0, none⟩) 0 0) 0 [] rfl H1.out (some ⟨b, off, none⟩) k cap (eCells (es.take k)) rfl (Vals.below VT.out A1.out) HLT.out (ints_one _) (fun h => by cases h) (by omega) (by simp) k (Nat.zero_add k) (eCells (es.take k)) rfl ?_
               intro a5 c5 w5 hown5 hgrow5 hat5
               have HO5 := Lib.hid hown5
               have HB5 : Hid (Below wo.heap.size wo w5) := Lib.hid (A1.out.grown hgrow5 (by simp) (by simp [Value.ownBlock]))
               have HM5 : Hid (wo.heap.size + 1 ≤ w5.heap.size) := Lib.hid (by have := hgrow5.size; simpa using this)
               have HZ5 : Hid (∃ g, a5 = some ⟨g, 0, none⟩) := Lib.hid (by
                 rcases hat5 with h | h
                 · exact ⟨_, own_some hown5 (h.trans rfl)⟩
                 · exact ⟨_, own_some hown5 h⟩)
               have kk5 : w5.cell? ⟨w.heap.size, 2, none⟩ = some (.slice (some ⟨b, off, none⟩) n cap) := hgrow5.cell (keep x2 _) (by simp [Value.ownBlock]; omega))
            | (refine step_appA _ rfl elemEntry (.tmp 24) (.tmp 29) rfl wo.heap.size (.slice a5 k c5) k (eCells (es.take k)) rfl HO5.out (some ⟨b, off + (k + 1) * 7, none⟩) (n - (k + 1)) (cap - (k + 1)) (eCells (es.drop (k + 1))) rfl (Vals.below VD.out HB5.out) HLD.out (ints_one _) (fun h => by cases h) (by omega) HB5.out.size (n - 1) (by omega) (eCells (es.take k ++ es.drop (k + 1))) HAP.out ?_
               intro a6 c6 w6 hown6 hgrow6 hat6
               have HO6 := Lib.hid hown6
               have HB6 : Hid (Below wo.heap.size wo w6) := Lib.hid (HB5.out.grown hgrow6 HB5.out.size (fun g hg => (HO5.out.lt g hg).1))
               have HZ6 : Hid (∃ g, a6 = some ⟨g, 0, none⟩) := Lib.hid (by
                 obtain ⟨g5, rfl⟩ := HZ5.out
                 rcases hat6 with h | h
                 · exact ⟨_, own_some hown6 (h.trans rfl)⟩
                 · exact ⟨_, own_some hown6 h⟩)
               have HN6 : Hid (Box w6 w3.heap.size 30 [.int .i64 sz, .int .i64 st, .slice a3 n c3]) := Lib.hid (HN4.out.keep HB6.out)
               obtain ⟨m0, m1, m2, mf⟩ := HN6.out.three
               have kk6 : w6.cell? ⟨w.heap.size, 2, none⟩ = some (.slice (some ⟨b, off, none⟩) n cap) := (HB6.out.cell (p := ⟨w.heap.size, 2, none⟩) (by show w.heap.size < _; omega)).trans x2))
        obtain ⟨r0, r1, r2, fr⟩ := (HR4.out.keep HB6.out).three
        have hz6 := HB6.out.size
        have hlr : w.heap.size + 2 < w6.heap.size := by omega
        have hnr : ¬ w.heap.size + 2 = w3.heap.size := by omega
        have hnr2 : ¬ w3.heap.size = w.heap.size + 2 := by omega
        go_wp2_with fail
        refine bodyPost_ret (v := .agg #[.int .i64 sz, .int .i64 st, .slice a6 (n - 1) c6]) (by simp [results, Try.results48, go_sem, r0, r1, r2]) rfl ?_
        rw [HQ2.out, HDR.out]
        have hne1 : (Value.slice a6 (n - 1) c6).ownBlock ≠ some (w.heap.size + 2) := fun e => by have := (HO6.out.lt _ e).1; omega
        have hne2 : (Value.slice a6 (n - 1) c6).ownBlock ≠ some w3.heap.size := fun e => by have := (HO6.out.lt _ e).1; omega
        have hb7 : Below w.heap.size w w6 := Below.step (Below.step (Below.step HG.out HB2.out HG.out.size) HB2o.out (by omega)) HB6.out (by omega)
        have hlen : (es.take k ++ es.drop (k + 1)).length = n - 1 := by rw [List.length_append, List.length_take, List.length_drop, HX.out]; omega
        rw [← hlen]
        rw [← hlen] at HO6 hne1 hne2
        refine ⟨a6, c6, rfl, ?_, below_grown ?_⟩
        · exact row_wider (row_set (row_set (row_set (row_set HO6.out _ _ hne2) _ _ hne1) _ _ hne1) _ _ hne1) (by omega)
        · go_grown
end Go.Proofs.Ytdkdfehlmphikaa
