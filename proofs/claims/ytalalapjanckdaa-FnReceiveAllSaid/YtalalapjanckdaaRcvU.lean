/- Contract of the reference's Receive: numbers that change nothing. No condition but lists of at most 10^6 numbers. -/
import Derived.Test.YtalalapjanckdaaRcvT
namespace Go.Proofs.Ytalalapjanckdaa
open Go.RowKit
set_option maxRecDepth 100000 in
set_option maxHeartbeats 3200000 in
theorem s_Rc_same (N R : Int) (a : Option Addr) (n cap : Nat) (xs : List Int) (x : Int) (w : World) (hxs : xs.length = n) (hn : n ≤ 1000000) (h : Ints w a xs) (ha : a = none → n = 0 ∧ cap = 0) (hv : rv N R xs = true) (hc : x < N ∨ xs.contains x = true) :
    Calls Try.prog 30 #[.agg #[.int .i64 N, .int .i64 R, .slice a n cap], .int .i64 x] w (RetRc w (rcv N R xs x)) := by
  rw [rcv_same hv hc]
  obtain ⟨⟨b1, b2⟩, ⟨b3, b4⟩, h5, h6⟩ := (rv_iff N R xs).1 hv
  have hfar : x < N + R := by
    rcases hc with hc | hc
    · omega
    · rw [List.contains_iff_mem] at hc; exact (h5 x hc).2
  have HC := Lib.hid hc
  have PL := Lib.hid (place_lt x xs h6)
  have PG := Lib.hid (place_ge x xs h6)
  have PI := Lib.hid (fun hc => place_in (x := x) h6 hc)
  have hKn := place_le x xs
  rw [hxs] at hKn
  have PGn := Lib.hid (fun (hk : xs.countP (· < x) < n) => PG.out (by rw [hxs]; exact hk))
  have PIn := Lib.hid (fun hc => (by have := PI.out hc; rw [hxs] at this; exact this : xs.countP (· < x) < n ∧ xs.getD (xs.countP (· < x)) 0 = x))
  generalize xs.countP (· < x) = K at PL PG PI hKn PGn PIn
  clear PG PI hc h5 h6
  obtain ⟨W0, hW, g0, hs, bx, bY⟩ := head2 (N := N) (R := R) (a := a) (n := n) (cap := cap) w
  have HX := Lib.hid hxs
  have HW := Lib.hid hW
  have HG := Lib.hid g0
  have HS := Lib.hid hs
  have HI := Lib.hid (h.below g0)
  have HA := Lib.hid ha
  have HBx := Lib.hid bx
  have HBy := Lib.hid bY
  have HV := Lib.hid hv
  clear hxs hW g0 hs h ha bx bY hv
  go_enter Try.func30, Try.ntmps30
  go_wp2_with fail
  rw [← HW.out]
  refine (s_ownR N R a n cap xs _ HX.out (by omega) HI.out HA.out).mono ?_; rintro e w2 ⟨a', c', rfl, o2, g2, n2⟩
  have HN2 := Lib.hid n2
  rw [HX.out] at o2 ⊢
  have O2 := Lib.hid o2
  have LT := Lib.hid o2.lt
  rw [HS.out] at LT
  have B2 : Hid (Below w.heap.size w w2) := Lib.hid (HG.out.trans ((grown_below g2).mono (by rw [HS.out]; omega)))
  have z2 := g2.size
  rw [HS.out] at z2
  have Bx2 := Lib.hid (HBx.out.keep (grown_below g2))
  have By2 := Lib.hid (HBy.out.keep (grown_below g2))
  obtain ⟨x0, x1, x2, fx⟩ := Bx2.out.three
  have hne : (Value.slice a' n c').ownBlock ≠ some w.heap.size := fun e => by have := (LT.out _ e).1; omega
  obtain ⟨W3, hW3⟩ : ∃ W3, W3 = (((w2.setCell ⟨w.heap.size, 0, none⟩ (.int .i64 N)).setCell ⟨w.heap.size, 1, none⟩ (.int .i64 R)).setCell ⟨w.heap.size, 2, none⟩ (.slice a' n c')).alloc (.cells #[] 3) := ⟨_, rfl⟩
  have z3 : W3.heap.size = w2.heap.size + 1 := by rw [hW3]; simp
  have B3 : Hid (Below w.heap.size w W3) := Lib.hid (by rw [hW3]; exact (((B2.out.setCell (by simp) _).setCell (by simp) _).setCell (by simp) _).alloc (by simp; omega) _)
  have Bx3 : Hid (Box W3 w.heap.size 52 [.int .i64 N, .int .i64 R, .slice a' n c']) := Lib.hid (by rw [hW3]; exact (((Bx2.out.set 0 _).set 1 _).set 2 _).alloc _)
  have By3 : Hid (Box W3 (w.heap.size + 1) 52 [.int .i64 0, .int .i64 0, .slice none 0 0]) := Lib.hid (by rw [hW3]; exact (((By2.out.other (by simp) _).other (by simp) _).other (by simp) _).alloc _)
  have O3 : Hid (W3.ownsRow w.heap.size 3 1 (.slice a' n c') n (xs.map (Value.int .i64))) := Lib.hid (by rw [hW3]; exact row_wider ((row_set (row_set (row_set O2.out _ _ hne) _ _ hne) _ _ hne).alloc _) (by rw [HS.out]; omega))
  have E3 : Hid (W3.ownsRow w2.heap.size 3 1 (.slice (some ⟨w2.heap.size, 0, none⟩) 0 0) 0 (([] : List Int).map (Value.int .i64))) := Lib.hid (by rw [hW3]; exact row_emp _ _ _ _ (by simp) (Nat.le_refl _))
  have HW3 := Lib.hid hW3
  have HZ3 := Lib.hid z3
  clear o2 g2 n2 hW3 hne z3
  obtain ⟨q0, q1, q2, fq⟩ := Bx3.out.three
  go_upto_region 3 with fail
  rw [← HW3.out]
  clear x0 x1 x2 fx
  go_wp2_with fail
  clear q0 q1 q2 fq
  refine (s_ReceiverValid N R a' n c' xs _ HX.out (by omega) (own_ints O3.out).1).mono ?_; rintro e w4 ⟨rfl, b4⟩
  rw [HV.out]
  have B4 : Hid (Below w.heap.size w w4) := Lib.hid (B3.out.trans (b4.mono (by rw [HZ3.out]; omega)))
  have z4 : w2.heap.size + 1 ≤ w4.heap.size := by have := b4.size; rw [HZ3.out] at this; exact this
  have Bx4 := Lib.hid (Bx3.out.keep b4)
  have By4 := Lib.hid (By3.out.keep b4)
  have O4 := Lib.hid (row_below O3.out b4)
  have E4 := Lib.hid (row_below E3.out b4)
  have JA := Lib.hid (own_none O4.out)
  have V4 : Hid (Vals w4 a' (xs.map (Value.int .i64))) := Lib.hid (row_vals O4.out)
  clear b4
  go_upto_region 5 with fail
  go_cut [8] (XRel N R xs n w4.heap.size w4)
  case first =>
    obtain ⟨x0, x1, x2, fx⟩ := Bx4.out.three
    have hzd : w4.drew.heap.size = w4.heap.size := rfl
    have HL := Lib.hid (show (xs.map (Value.int .i64)).length = n * 1 by rw [List.length_map, HX.out, Nat.mul_one])
    have H1 : Hid ((w4.alloc (.cells #[] 3)).drew.ownsRow w4.heap.size 3 1 (.slice (some ⟨w4.heap.size, 0, none⟩) 0 0) 0 []) := Lib.hid (row_emp w4 _ _ _ rfl (Nat.le_refl _)).drew
    have H2 : Hid (((w4.alloc (.cells #[] 3)).alloc (.cells #[.int .i64 0, .int .i64 0, .slice none 0 0] 52)).drew.ownsRow w4.heap.size 3 1 (.slice (some ⟨w4.heap.size, 0, none⟩) 0 0) 0 []) := Lib.hid ((row_emp w4 _ _ _ rfl (Nat.le_refl _)).alloc _).drew
    have H3 : Hid (((w4.alloc (.cells #[.int .i64 0, .int .i64 0, .slice none 0 0] 52)).alloc (.cells #[] 3)).drew.ownsRow w4.heap.size 3 1 (.slice (some ⟨w4.heap.size + 1, 0, none⟩) 0 0) 0 []) := Lib.hid (row_emp (w4.alloc (.cells #[.int .i64 0, .int .i64 0, .slice none 0 0] 52)) _ _ _ (by simp) (by omega)).drew
    have A1 : Hid (Below w4.heap.size w4 (w4.alloc (.cells #[] 3)).drew) := Lib.hid ((Below.refl _ _).alloc (Nat.le_refl _) _).drew
    have A2 : Hid (Below w4.heap.size w4 ((w4.alloc (.cells #[] 3)).alloc (.cells #[.int .i64 0, .int .i64 0, .slice none 0 0] 52)).drew) := Lib.hid (((Below.refl _ _).alloc (Nat.le_refl _) _).alloc (by simp) _).drew
    have A3 : Hid (Below w4.heap.size w4 ((w4.alloc (.cells #[.int .i64 0, .int .i64 0, .slice none 0 0] 52)).alloc (.cells #[] 3)).drew) := Lib.hid (((Below.refl _ _).alloc (Nat.le_refl _) _).alloc (by simp) _).drew
    clear fx
    have hl4 : w.heap.size < w4.heap.size := by omega
    go_region_held3 (fun w' => w'.cell? ⟨w.heap.size, 0, none⟩ = some (.int .i64 N) ∧ w'.cell? ⟨w.heap.size, 1, none⟩ = some (.int .i64 R) ∧ w'.cell? ⟨w.heap.size, 2, none⟩ = some (.slice a' n c')) (first | (with_reducible exact ⟨keepD0 x0, keepD0 x1, keepD0 x2⟩) | (with_reducible exact ⟨keepD1 x0 _, keepD1 x1 _, keepD1 x2 _⟩) | (with_reducible exact ⟨keepD2 x0 _ _, keepD2 x1 _ _, keepD2 x2 _ _⟩) | (with_reducible exact ⟨kk0, kk1, kk2⟩) | (with_reducible exact ⟨keep kk0 _, keep kk1 _, keep kk2 _⟩) | (with_reducible exact ⟨keepS kk0 (by omega), keepS kk1 (by omega), keepS kk2 (by omega)⟩) | (trace "KEEP"; trace_state; fail))
      (first
        | (refine step_appA _ rfl elemI (.tmp 22) (.tmp 24) rfl w4.heap.size (.slice (some ⟨w4.heap.size, 0, none⟩) 0 0) 0 [] rfl H1.out a' n c' (xs.map (Value.int .i64)) rfl (V4.out.below A1.out) HL.out (ints_one _) JA.out (by omega) (by simp) n (Nat.zero_add n) (xs.map (Value.int .i64)) rfl ?_
           intro a5 c5 w5 hown5 hgrow5 hat5
           have HO5 := Lib.hid hown5
           have HB5 : Hid (Below w4.heap.size w4 w5) := Lib.hid (A1.out.grown hgrow5 (by simp) (by simp [Value.ownBlock]))
           have HZ5 : Hid ((Value.slice a5 n c5).ownBlock = some w4.heap.size ∨ (Value.slice a5 n c5).ownBlock = some (w4.heap.size + 1)) := Lib.hid (by simpa [Value.ownBlock] using hat5)
           have HM5 : Hid (w4.heap.size + 1 ≤ w5.heap.size) := Lib.hid (by have := hgrow5.size; simpa using this)
           have kk0 : w5.cell? ⟨w.heap.size, 0, none⟩ = some (.int .i64 N) := hgrow5.cell (keep x0 _) (by simp [Value.ownBlock]; omega)
           have kk1 : w5.cell? ⟨w.heap.size, 1, none⟩ = some (.int .i64 R) := hgrow5.cell (keep x1 _) (by simp [Value.ownBlock]; omega)
           have kk2 : w5.cell? ⟨w.heap.size, 2, none⟩ = some (.slice a' n c') := hgrow5.cell (keep x2 _) (by simp [Value.ownBlock]; omega))
        | (refine step_appA _ rfl elemI (.tmp 22) (.tmp 24) rfl w4.heap.size (.slice (some ⟨w4.heap.size, 0, none⟩) 0 0) 0 [] rfl H2.out a' n c' (xs.map (Value.int .i64)) rfl (V4.out.below A2.out) HL.out (ints_one _) JA.out (by omega) (by simp <;> omega) n (Nat.zero_add n) (xs.map (Value.int .i64)) rfl ?_
           intro a5 c5 w5 hown5 hgrow5 hat5
           have HO5 := Lib.hid hown5
           have HB5 : Hid (Below w4.heap.size w4 w5) := Lib.hid (A2.out.grown hgrow5 (by simp <;> omega) (by simp [Value.ownBlock]))
           have HZ5 : Hid ((Value.slice a5 n c5).ownBlock = some w4.heap.size ∨ (Value.slice a5 n c5).ownBlock = some (w4.heap.size + 2)) := Lib.hid (by simpa [Value.ownBlock] using hat5)
           have HM5 : Hid (Box w5 (w4.heap.size + 1) 52 [.int .i64 0, .int .i64 0, .slice none 0 0]) := Lib.hid ((hgrow5.block (w4.heap.size + 1) (by simp) (by simp [Value.ownBlock])).trans (Box.new2 _ _ _ _ (by simp)))
           have kk0 : w5.cell? ⟨w.heap.size, 0, none⟩ = some (.int .i64 N) := hgrow5.cell (keep (keep x0 _) _) (by simp [Value.ownBlock]; omega)
           have kk1 : w5.cell? ⟨w.heap.size, 1, none⟩ = some (.int .i64 R) := hgrow5.cell (keep (keep x1 _) _) (by simp [Value.ownBlock]; omega)
           have kk2 : w5.cell? ⟨w.heap.size, 2, none⟩ = some (.slice a' n c') := hgrow5.cell (keep (keep x2 _) _) (by simp [Value.ownBlock]; omega)
           obtain ⟨m0, m1, m2, mf⟩ := HM5.out.three)
        | (refine step_appA _ rfl elemI (.tmp 22) (.tmp 24) rfl w4.heap.size (.slice (some ⟨w4.heap.size + 1, 0, none⟩) 0 0) 0 [] rfl H3.out a' n c' (xs.map (Value.int .i64)) rfl (V4.out.below A3.out) HL.out (ints_one _) JA.out (by omega) (by simp <;> omega) n (Nat.zero_add n) (xs.map (Value.int .i64)) rfl ?_
           intro a5 c5 w5 hown5 hgrow5 hat5
           have HO5 := Lib.hid hown5
           have HB5 : Hid (Below w4.heap.size w4 w5) := Lib.hid (A3.out.grown hgrow5 (by simp <;> omega) (by simp [Value.ownBlock]))
           have HZ5 : Hid ((Value.slice a5 n c5).ownBlock = some (w4.heap.size + 1) ∨ (Value.slice a5 n c5).ownBlock = some (w4.heap.size + 2)) := Lib.hid (by simpa [Value.ownBlock] using hat5)
           have HM5 : Hid (Box w5 w4.heap.size 52 [.int .i64 0, .int .i64 0, .slice none 0 0]) := Lib.hid ((hgrow5.block w4.heap.size (by simp <;> omega) (by simp [Value.ownBlock])).trans ((Box.new2 _ _ _ _ rfl).alloc _))
           have kk0 : w5.cell? ⟨w.heap.size, 0, none⟩ = some (.int .i64 N) := hgrow5.cell (keep (keep x0 _) _) (by simp [Value.ownBlock]; omega)
           have kk1 : w5.cell? ⟨w.heap.size, 1, none⟩ = some (.int .i64 R) := hgrow5.cell (keep (keep x1 _) _) (by simp [Value.ownBlock]; omega)
           have kk2 : w5.cell? ⟨w.heap.size, 2, none⟩ = some (.slice a' n c') := hgrow5.cell (keep (keep x2 _) _) (by simp [Value.ownBlock]; omega)
           obtain ⟨m0, m1, m2, mf⟩ := HM5.out.three))
    all_goals
      go_wp2_with fail
      go_meet
      have hz := HZ5.out
    · refine ⟨w5.heap.size, a5, c5, rfl, HB5.out.size, Box.new2 _ _ _ _ rfl, HO5.out.alloc _, ?_, HB5.out.alloc HB5.out.size _⟩
      exact fun e => by have := (HO5.out.lt _ e).2; omega
    · refine ⟨w4.heap.size + 1, a5, c5, rfl, by omega, ((HM5.out.set 0 _).set 1 _).set 2 _, ?_, ?_, ((HB5.out.setCell (by simp) _).setCell (by simp) _).setCell (by simp) _⟩
      · have hne : (Value.slice a5 n c5).ownBlock ≠ some (w4.heap.size + 1) := by rcases hz with h | h <;> rw [h] <;> intro e <;> injection e with e <;> omega
        exact row_set (row_set (row_set HO5.out _ _ hne) _ _ hne) _ _ hne
      · rcases hz with h | h <;> rw [h] <;> intro e <;> injection e with e <;> omega
    · refine ⟨w4.heap.size, a5, c5, rfl, Nat.le_refl _, ((HM5.out.set 0 _).set 1 _).set 2 _, ?_, ?_, ((HB5.out.setCell (by simp) _).setCell (by simp) _).setCell (by simp) _⟩
      · have hne : (Value.slice a5 n c5).ownBlock ≠ some w4.heap.size := by rcases hz with h | h <;> rw [h] <;> intro e <;> injection e with e <;> omega
        exact row_set (row_set (row_set HO5.out _ _ hne) _ _ hne) _ _ hne
      · rcases hz with h | h <;> rw [h] <;> intro e <;> injection e with e <;> omega
  case rest =>
    obtain ⟨gx, a2, c2, rfl, hgx, hbx, hrx, hnx, hwx⟩ := hcut
    have HBX := Lib.hid hbx
    have HRX := Lib.hid hrx
    have HNX := Lib.hid hnx
    have HWX := Lib.hid hwx
    have zx := hwx.size
    have hgl := hbx.lt
    have By5 := Lib.hid (By4.out.below hwx (by omega))
    have Bx5 := Lib.hid (Bx4.out.below hwx (by omega))
    have E5 := Lib.hid (row_kept E4.out (below_grown hwx) (fun _ _ => by simp))
    have O5 := Lib.hid (row_kept O4.out (below_grown hwx) (fun _ _ => by simp))
    have B5 : Hid (Below w.heap.size w wc) := Lib.hid (B4.out.trans (hwx.mono (by omega)))
    have LTX := Lib.hid hrx.lt
    obtain ⟨x0, x1, x2, fx⟩ := Bx5.out.three
    obtain ⟨y0, y1, y2, fy⟩ := By5.out.three
    obtain ⟨u0, u1, u2, fu⟩ := hbx.three
    clear hbx hrx hnx hwx
    go_wp2
    go_loop [9] (fun i => ∃ (k : Nat), k ≤ K ∧ i = .int .i64 k) (fun i => n - (intOf i).toNat)
    case atStart => exact ⟨0, Nat.zero_le _, rfl⟩
    case round =>
      obtain ⟨k, hk, rfl⟩ := hrel
      by_cases hlt : k < K
      · have hkn : k < n := by omega
        obtain ⟨p1, off1, rfl, hp1, hcc⟩ := (own_ints HRX.out).1.at HX.out hkn
        have c0 := hcc k hkn
        have hxk := PL.out k hlt
        clear hcc
        generalize xs.getD k 0 = yk at *
        go_wp2
        go_round
        case rel => exact ⟨k + 1, by omega, by go_num⟩
        case measure => simp [intOf]; omega
      obtain rfl : k = K := by omega
      by_cases hkn : k < n
      · obtain ⟨p1, off1, rfl, hp1, hcc⟩ := (own_ints HRX.out).1.at HX.out hkn
        have c0 := hcc k hkn
        have hge := PGn.out hkn
        clear hcc
        by_cases hxN : x < N
        · generalize xs.getD k 0 = yk at *
          go_wp2
          refine bodyPost_ret (v := .tuple #[.agg #[.int .i64 N, .int .i64 R, .slice (some ⟨p1, off1, none⟩) n c2], .slice (some ⟨w2.heap.size, 0, none⟩) 0 0, .bool true]) (by simp [results, Try.results30, go_sem, y0, y1, y2]) rfl ?_
          have hb := B5.out
          have hne : (Value.slice (some ⟨w2.heap.size, 0, none⟩) 0 0).ownBlock ≠ some (w.heap.size + 1) := by simp [Value.ownBlock]; omega
          have hn2 : (Value.slice (some ⟨p1, off1, none⟩) n c2).ownBlock ≠ some (w.heap.size + 1) := fun e => by have := (LTX.out _ e).1; omega
          refine ⟨(some ⟨p1, off1, none⟩), c2, some ⟨w2.heap.size, 0, none⟩, 0, by rw [HX.out]; rfl, ?_, row_wider (row_set (row_set (row_set E5.out _ _ hne) _ _ hne) _ _ hne) (by omega), ?_, by go_grown⟩
          · rw [HX.out]; exact row_wider (row_set (row_set (row_set HRX.out _ _ hn2) _ _ hn2) _ _ hn2) (by omega)
          · rw [HX.out]
            intro k hk e
            have := (LTX.out _ hk).1
            have e2 : some w2.heap.size = some k := e
            injection e2 with e2
            omega
        · have hKx := (PIn.out (HC.out.resolve_left hxN)).2
          rw [hKx] at c0
          clear hKx hge
          go_wp2
          refine bodyPost_ret (v := .tuple #[.agg #[.int .i64 N, .int .i64 R, .slice (some ⟨p1, off1, none⟩) n c2], .slice (some ⟨w2.heap.size, 0, none⟩) 0 0, .bool true]) (by simp [results, Try.results30, go_sem, y0, y1, y2]) rfl ?_
          have hb := B5.out
          have hne : (Value.slice (some ⟨w2.heap.size, 0, none⟩) 0 0).ownBlock ≠ some (w.heap.size + 1) := by simp [Value.ownBlock]; omega
          have hn2 : (Value.slice (some ⟨p1, off1, none⟩) n c2).ownBlock ≠ some (w.heap.size + 1) := fun e => by have := (LTX.out _ e).1; omega
          refine ⟨(some ⟨p1, off1, none⟩), c2, some ⟨w2.heap.size, 0, none⟩, 0, by rw [HX.out]; rfl, ?_, row_wider (row_set (row_set (row_set E5.out _ _ hne) _ _ hne) _ _ hne) (by omega), ?_, by go_grown⟩
          · rw [HX.out]; exact row_wider (row_set (row_set (row_set HRX.out _ _ hn2) _ _ hn2) _ _ hn2) (by omega)
          · rw [HX.out]
            intro k hk e
            have := (LTX.out _ hk).1
            have e2 : some w2.heap.size = some k := e
            injection e2 with e2
            omega
      · have hxN : x < N := by
          rcases HC.out with h | h
          · exact h
          · have := (PIn.out h).1; omega
        go_wp2
        refine bodyPost_ret (v := .tuple #[.agg #[.int .i64 N, .int .i64 R, .slice a2 n c2], .slice (some ⟨w2.heap.size, 0, none⟩) 0 0, .bool true]) (by simp [results, Try.results30, go_sem, y0, y1, y2]) rfl ?_
        have hb := B5.out
        have hne : (Value.slice (some ⟨w2.heap.size, 0, none⟩) 0 0).ownBlock ≠ some (w.heap.size + 1) := by simp [Value.ownBlock]; omega
        have hn2 : (Value.slice a2 n c2).ownBlock ≠ some (w.heap.size + 1) := fun e => by have := (LTX.out _ e).1; omega
        refine ⟨a2, c2, some ⟨w2.heap.size, 0, none⟩, 0, by rw [HX.out]; rfl, ?_, row_wider (row_set (row_set (row_set E5.out _ _ hne) _ _ hne) _ _ hne) (by omega), ?_, by go_grown⟩
        · rw [HX.out]; exact row_wider (row_set (row_set (row_set HRX.out _ _ hn2) _ _ hn2) _ _ hn2) (by omega)
        · rw [HX.out]
          intro k hk e
          have := (LTX.out _ hk).1
          have e2 : some w2.heap.size = some k := e
          injection e2 with e2
          omega
end Go.Proofs.Ytalalapjanckdaa
