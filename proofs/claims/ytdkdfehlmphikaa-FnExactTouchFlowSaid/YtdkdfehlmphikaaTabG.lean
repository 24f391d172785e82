/- DropFlow of the program. No condition but lists of at most 2^20 entries. -/
import Derived.Test.YtdkdfehlmphikaaTabC
import Derived.Test.YtdkdfehlmphikaaTabV
namespace Go.Proofs.Ytdkdfehlmphikaa
open Go.RowKit
/-- A table: size, stay, entries. -/
abbrev T3 := Int × Int × List E7
/-- A table without a flow. -/
def dropT (t : T3) (f : F5) : T3 := if tv t.1 t.2.1 t.2.2 = true then (t.1, t.2.1, t.2.2.filter (fun e => !decide (e.1 = f))) else (0, 0, [])
/-- A table is handed back, its list a new one. -/
def RetT (w : World) (t : T3) (e : Ending) (w' : World) : Prop := RetTab w t.1 t.2.1 t.2.2 e w'
theorem retZero (w w' : World) (h : Below w.heap.size w w') : RetT w (0, 0, []) (.returned (.agg #[.int .i64 0, .int .i64 0, .slice none 0 0])) w' :=
  ⟨none, 0, rfl, row_nil _ _ _ _, below_grown h⟩
theorem none_len {a : Option Addr} {n cap : Nat} {w : World} {base : Nat} {es : List E7} (h : EntRow w base a n cap es) (p : E7 → Bool) : a = none → (es.filter p).length = 0 ∧ cap = 0 := fun ha => by
  obtain ⟨h1, h2⟩ := own_none h ha
  have := h.len
  rw [h1] at this
  rw [List.eq_nil_of_length_eq_zero this]
  exact ⟨rfl, h2⟩
set_option maxRecDepth 100000 in
set_option maxHeartbeats 4000000 in
theorem c_DropFlow (sz st : Int) (f : F5) (a : Option Addr) (n cap : Nat) (es : List E7) (w : World) (hxs : es.length = n) (hn : n ≤ 1048576) (h : Ents w a es) (ha : a = none → n = 0 ∧ cap = 0) :
    Calls Try.prog 43 #[.agg #[.int .i64 sz, .int .i64 st, .slice a n cap], fvv f] w (RetT w (dropT (sz, st, es) f)) := by
  obtain ⟨y0, y1, y2, y3, y4⟩ := f
  unfold fvv
  obtain ⟨W, hW, gW, sW, bt, bf, br⟩ := head3 w 30 37 30 [.int .i64 sz, .int .i64 st, .slice a n cap] [.int .i64 y0, .int .i64 y1, .int .i64 y2, .int .i64 y3, .int .i64 y4] [.int .i64 0, .int .i64 0, .slice none 0 0]
  have HX := Lib.hid hxs
  have HW := Lib.hid hW
  have HG := Lib.hid gW
  have HS := Lib.hid sW
  have HA := Lib.hid ha
  have HE := Lib.hid (h.below gW)
  have HBT := Lib.hid bt
  have HBF := Lib.hid bf
  have HBR := Lib.hid br
  have HQ : Hid (dropT (sz, st, es) (y0, y1, y2, y3, y4) = if tv sz st es = true then (sz, st, es.filter (fun e => !decide (e.1 = (y0, y1, y2, y3, y4)))) else (0, 0, [])) := Lib.hid rfl
  clear hxs hW gW sW ha h bt bf br
  go_enter Try.func43, Try.ntmps43
  go_wp2_with fail
  rw [← HW.out]
  (with_reducible refine (c_TableValid sz st a n cap es _ HX.out hn HE.out).mono ?_)
  rintro e w2 ⟨rfl, hb2⟩
  have HB2 := Lib.hid hb2
  have hz2 := hb2.size
  rw [HS.out] at hz2
  have HT2 := Lib.hid (HBT.out.keep hb2)
  have HF2 := Lib.hid (HBF.out.keep hb2)
  have HR2 := Lib.hid (HBR.out.keep hb2)
  have HE2 := Lib.hid (HE.out.below hb2)
  clear hb2
  obtain ⟨t0, t1, t2, ft⟩ := HT2.out.three
  obtain ⟨r0, r1, r2, fr⟩ := HR2.out.three
  cases h1 : tv sz st es
  · go_wp2
    refine bodyPost_ret (v := .agg #[.int .i64 0, .int .i64 0, .slice none 0 0]) (by simp [results, Try.results43, go_sem, r0, r1, r2]) rfl ?_
    rw [HQ.out, h1, if_neg Bool.false_ne_true]
    refine retZero w _ ?_
    have := Below.step HG.out HB2.out HG.out.size
    go_grown
  · have HQ2 := Lib.hid (HQ.out.trans (if_pos h1))
    clear HQ h1
    go_wp2_with fail
    (with_reducible refine (c_clone sz st a n cap es _ HX.out hn HE2.out HA.out).mono ?_)
    rintro e w3 ⟨a3, c3, rfl, o3, g3⟩
    rw [HX.out] at o3 ⊢
    have HB3 := Lib.hid (grown_below g3)
    have hz3 := g3.size
    have HO3 := Lib.hid o3
    have LT3 := Lib.hid o3.lt
    have HT3 := Lib.hid (HT2.out.keep HB3.out)
    have HF3 := Lib.hid (HF2.out.keep HB3.out)
    have HR3 := Lib.hid (HR2.out.keep HB3.out)
    clear o3 g3 t0 t1 t2 ft r0 r1 r2 fr
    go_wp2_with fail
    obtain ⟨W4, hW4⟩ : ∃ W4, W4 = w3.alloc (.cells #[.int .i64 sz, .int .i64 st, .slice a3 n c3] 30) := ⟨_, rfl⟩
    have HW4 := Lib.hid hW4
    have HB4 : Hid (Below w3.heap.size w3 W4) := Lib.hid (by rw [hW4]; exact (Below.refl _ _).alloc (Nat.le_refl _) _)
    have HS4 : Hid (W4.heap.size = w3.heap.size + 1) := Lib.hid (by rw [hW4]; simp)
    have HN4 : Hid (Box W4 w3.heap.size 30 [.int .i64 sz, .int .i64 st, .slice a3 n c3]) := Lib.hid (by rw [hW4]; exact Box.new _ _ _)
    have HF4 := Lib.hid (HF3.out.keep HB4.out)
    have HR4 := Lib.hid (HR3.out.keep HB4.out)
    have HO4 : Hid (EntRow W4 w2.heap.size a3 n c3 es) := Lib.hid (row_below HO3.out HB4.out)
    clear hW4
    rw [← HW4.out]
    have hbf : some (w.heap.size + 1) ≠ (Value.slice a3 n c3).ownBlock := fun e => by have := (LT3.out _ e.symm).1; omega
    have HTS : Hid (Tests 85 #[.pointer (some ⟨w.heap.size + 1, 0, none⟩)] (fun e => decide (e.1 = (y0, y1, y2, y3, y4))) es W4 (Value.slice a3 n c3).ownBlock) := Lib.hid fun e w' _ hg => by
      exact c_drop1 _ _ _ _ _ _ _ _ _ _ _ _ _ _ (HF4.out.kept hg hbf.symm)
    refine (c_DeleteE 85 _ _ w2.heap.size a3 n c3 es W4 hn HO4.out HTS.out (enters_of Try.func85 (by kernel_rfl) rfl)).mono ?_
    rintro e w5 ⟨rfl, e5, g5⟩
    have HNL := Lib.hid (none_len HO4.out (fun e => !decide (e.1 = (y0, y1, y2, y3, y4))))
    have hml : (es.filter (fun e => !decide (e.1 = (y0, y1, y2, y3, y4)))).length ≤ n := by rw [← HX.out]; exact List.length_filter_le _ _
    generalize es.filter (fun e => !decide (e.1 = (y0, y1, y2, y3, y4))) = ks at *
    obtain ⟨m, hm⟩ : ∃ m, m = ks.length := ⟨_, rfl⟩
    have HM := Lib.hid hm
    rw [← hm] at hml ⊢
    clear hm
    have HE5 := Lib.hid e5
    have hn3 : some w3.heap.size ≠ (Value.slice a3 n c3).ownBlock := fun e => by have := (LT3.out _ e.symm).2; omega
    have hr3 : some (w.heap.size + 2) ≠ (Value.slice a3 n c3).ownBlock := fun e => by have := (LT3.out _ e.symm).1; omega
    have HN5 := Lib.hid (HN4.out.kept g5 hn3.symm)
    have HR5 := Lib.hid (HR4.out.kept g5 hr3.symm)
    have HB5 : Hid (Below w2.heap.size w2 w5) := Lib.hid ((Below.step HB3.out HB4.out hz3).grown g5 (by rw [HS4.out]; omega) (fun g hg => (LT3.out g hg).1))
    have hz5 := g5.size
    rw [HS4.out] at hz5
    clear e5 g5
    obtain ⟨n0, n1, n2, fn⟩ := HN5.out.three
    go_wp2_with fail
    obtain ⟨W6, hW6⟩ : ∃ W6, W6 = w5.setCell ⟨w3.heap.size, 2, none⟩ (.slice a3 m c3) := ⟨_, rfl⟩
    have HW6 := Lib.hid hW6
    have HR6 : Hid (Box W6 (w.heap.size + 2) 30 [.int .i64 0, .int .i64 0, .slice none 0 0]) := Lib.hid (by rw [hW6]; exact HR5.out.other (by simp; omega) _)
    have HB6 : Hid (Below w2.heap.size w2 W6) := Lib.hid (by rw [hW6]; exact HB5.out.setCell (by simpa using hz3) _)
    have HE6 : Hid (Ents W6 a3 ks) := Lib.hid (by
      rw [hW6]
      refine Ints.set HE5.out _ _ fun q hq => ?_
      have := (LT3.out q.block (by rw [hq]; rfl)).2
      simp; omega)
    have hz6 : W6.heap.size = w5.heap.size := by rw [hW6]; simp
    clear hW6 n0 n1 n2 fn
    rw [← HW6.out]
    (with_reducible refine (c_clone sz st a3 m c3 ks _ HM.out.symm (by omega) HE6.out (by rw [HM.out]; exact HNL.out)).mono ?_)
    rintro e w7 ⟨a7, c7, rfl, o7, g7⟩
    have HO7 := Lib.hid o7
    have HB7 := Lib.hid (grown_below g7)
    have hz7 := g7.size
    obtain ⟨r0, r1, r2, fr⟩ := (HR6.out.keep HB7.out).three
    clear o7 g7
    go_wp2
    refine bodyPost_ret (v := .agg #[.int .i64 sz, .int .i64 st, .slice a7 ks.length c7]) (by simp [results, Try.results43, go_sem, r0, r1, r2]) rfl ?_
    rw [HQ2.out]
    have hne : (Value.slice a7 ks.length c7).ownBlock ≠ some (w.heap.size + 2) := fun e => by have := (HO7.out.lt _ e).1; omega
    have hb7 : Below w.heap.size w w7 := Below.step (Below.step (Below.step HG.out HB2.out HG.out.size) HB6.out (by omega)) HB7.out (by omega)
    refine ⟨a7, c7, rfl, row_wider (row_set (row_set (row_set HO7.out _ _ hne) _ _ hne) _ _ hne) (by omega), below_grown ?_⟩
    go_grown
end Go.Proofs.Ytdkdfehlmphikaa
