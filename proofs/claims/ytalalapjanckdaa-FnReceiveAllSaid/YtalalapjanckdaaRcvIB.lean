/- Contract of the reference's Receive: a number that is put in, behind all others. No condition but lists of at most 10^6 numbers. -/
import Derived.Test.YtalalapjanckdaaRcvW
namespace Go.Proofs.Ytalalapjanckdaa
open Go.RowKit
set_option maxRecDepth 100000 in
set_option maxHeartbeats 6400000 in
theorem s_Rc_insB (N R : Int) (a : Option Addr) (n cap : Nat) (xs : List Int) (x : Int) (w : World) (hxs : xs.length = n) (hn : n ≤ 1000000) (h : Ints w a xs) (ha : a = none → n = 0 ∧ cap = 0) (hv : rv N R xs = true) (hc1 : N ≤ x) (hc2 : xs.contains x = false) (hfar : x < N + R) (hK : ¬ xs.countP (· < x) < n) :
    Calls Try.prog 30 #[.agg #[.int .i64 N, .int .i64 R, .slice a n cap], .int .i64 x] w (RetRs w (rcv N R xs x)) := by
  rw [show rcv N R xs x = insRes N R xs (insV xs (xs.countP (· < x)) x) (insL N xs x) from rcv_ins hv hc1 hc2 hfar]
  obtain ⟨⟨b1, b2⟩, ⟨b3, b4⟩, h5, h6⟩ := (rv_iff N R xs).1 hv
  have PL := Lib.hid (place_lt x xs h6)
  have PG := Lib.hid (place_ge x xs h6)
  have PO := Lib.hid (fun hk => place_out (x := x) (xs := xs) hc2 hk)
  have hKn := place_le x xs
  rw [hxs] at hKn
  have PGn := Lib.hid (fun (hk : xs.countP (· < x) < n) => PG.out (by rw [hxs]; exact hk))
  have POn := Lib.hid (fun (hk : xs.countP (· < x) < n) => PO.out (by rw [hxs]; exact hk))
  have HLa := Lib.hid (runLen_at (insV xs (xs.countP (· < x)) x) (N - 1))
  have HLs := Lib.hid (runLen_stop (insV xs (xs.countP (· < x)) x) (N - 1))
  have hLn := runLen_le (insV xs (xs.countP (· < x)) x) (N - 1)
  have HIL : Hid (insL N xs x = runLen (N - 1) (insV xs (xs.countP (· < x)) x)) := Lib.hid rfl
  rw [insV_len (by rw [hxs]; exact hKn), hxs] at hLn
  rw [← HIL.out] at hLn HLa HLs
  generalize insL N xs x = L at hLn HLa HLs HIL ⊢
  clear HIL
  generalize xs.countP (· < x) = K at PL PG PO hKn PGn POn HLa HLs hK ⊢
  clear PG PO hc2 h5 h6
  obtain ⟨W0, hW, g0, hs, bx, bY⟩ := head2 (N := N) (R := R) (a := a) (n := n) (cap := cap) w
  have HX := Lib.hid hxs
  have HW := Lib.hid hW
  have HG := Lib.hid g0
  have HS := Lib.hid hs
  have HI := Lib.hid (h.below g0)
  have HA := Lib.hid ha
  have HBx := Lib.hid bx
  have HBy := Lib.hid bY
  have HV := Lib.hid hv
  clear hxs hW g0 hs h ha bx bY hv
  go_enter Try.func30, Try.ntmps30
  go_wp2_with fail
  rw [← HW.out]
  refine (s_ownR N R a n cap xs _ HX.out (by omega) HI.out HA.out).mono ?_; rintro e w2 ⟨a', c', rfl, o2, g2, n2⟩
  have HN2 := Lib.hid n2
  rw [HX.out] at o2 ⊢
  have O2 := Lib.hid o2
  have LT := Lib.hid o2.lt
  rw [HS.out] at LT
  have B2 : Hid (Below w.heap.size w w2) := Lib.hid (HG.out.trans ((grown_below g2).mono (by rw [HS.out]; omega)))
  have z2 := g2.size
  rw [HS.out] at z2
  have Bx2 := Lib.hid (HBx.out.keep (grown_below g2))
  have By2 := Lib.hid (HBy.out.keep (grown_below g2))
  obtain ⟨x0, x1, x2, fx⟩ := Bx2.out.three
  have hne : (Value.slice a' n c').ownBlock ≠ some w.heap.size := fun e => by have := (LT.out _ e).1; omega
  obtain ⟨W3, hW3⟩ : ∃ W3, W3 = (((w2.setCell ⟨w.heap.size, 0, none⟩ (.int .i64 N)).setCell ⟨w.heap.size, 1, none⟩ (.int .i64 R)).setCell ⟨w.heap.size, 2, none⟩ (.slice a' n c')).alloc (.cells #[] 3) := ⟨_, rfl⟩
  have z3 : W3.heap.size = w2.heap.size + 1 := by rw [hW3]; simp
  have B3 : Hid (Below w.heap.size w W3) := Lib.hid (by rw [hW3]; exact (((B2.out.setCell (by simp) _).setCell (by simp) _).setCell (by simp) _).alloc (by simp; omega) _)
  have Bx3 : Hid (Box W3 w.heap.size 52 [.int .i64 N, .int .i64 R, .slice a' n c']) := Lib.hid (by rw [hW3]; exact (((Bx2.out.set 0 _).set 1 _).set 2 _).alloc _)
  have By3 : Hid (Box W3 (w.heap.size + 1) 52 [.int .i64 0, .int .i64 0, .slice none 0 0]) := Lib.hid (by rw [hW3]; exact (((By2.out.other (by simp) _).other (by simp) _).other (by simp) _).alloc _)
  have O3 : Hid (W3.ownsRow w.heap.size 3 1 (.slice a' n c') n (xs.map (Value.int .i64))) := Lib.hid (by rw [hW3]; exact row_wider ((row_set (row_set (row_set O2.out _ _ hne) _ _ hne) _ _ hne).alloc _) (by rw [HS.out]; omega))
  have E3 : Hid (W3.ownsRow w2.heap.size 3 1 (.slice (some ⟨w2.heap.size, 0, none⟩) 0 0) 0 (([] : List Int).map (Value.int .i64))) := Lib.hid (by rw [hW3]; exact row_emp _ _ _ _ (by simp) (Nat.le_refl _))
  have HW3 := Lib.hid hW3
  have HZ3 := Lib.hid z3
  clear o2 g2 n2 hW3 hne z3
  obtain ⟨q0, q1, q2, fq⟩ := Bx3.out.three
  go_upto_region 3 with fail
  rw [← HW3.out]
  clear x0 x1 x2 fx
  go_wp2_with fail
  clear q0 q1 q2 fq
  refine (s_ReceiverValid N R a' n c' xs _ HX.out (by omega) (own_ints O3.out).1).mono ?_; rintro e w4 ⟨rfl, b4⟩
  rw [HV.out]
  have B4 : Hid (Below w.heap.size w w4) := Lib.hid (B3.out.trans (b4.mono (by rw [HZ3.out]; omega)))
  have z4 : w2.heap.size + 1 ≤ w4.heap.size := by have := b4.size; rw [HZ3.out] at this; exact this
  have Bx4 := Lib.hid (Bx3.out.keep b4)
  have By4 := Lib.hid (By3.out.keep b4)
  have O4 := Lib.hid (row_below O3.out b4)
  have E4 := Lib.hid (row_below E3.out b4)
  have JA := Lib.hid (own_none O4.out)
  have V4 : Hid (Vals w4 a' (xs.map (Value.int .i64))) := Lib.hid (row_vals O4.out)
  clear b4
  go_upto_region 5 with fail
  go_cut [8] (XRel N R xs n w4.heap.size w4)
  case first =>
    obtain ⟨x0, x1, x2, fx⟩ := Bx4.out.three
    have hzd : w4.drew.heap.size = w4.heap.size := rfl
    have HL := Lib.hid (show (xs.map (Value.int .i64)).length = n * 1 by rw [List.length_map, HX.out, Nat.mul_one])
    have H1 : Hid ((w4.alloc (.cells #[] 3)).drew.ownsRow w4.heap.size 3 1 (.slice (some ⟨w4.heap.size, 0, none⟩) 0 0) 0 []) := Lib.hid (row_emp w4 _ _ _ rfl (Nat.le_refl _)).drew
    have H2 : Hid (((w4.alloc (.cells #[] 3)).alloc (.cells #[.int .i64 0, .int .i64 0, .slice none 0 0] 52)).drew.ownsRow w4.heap.size 3 1 (.slice (some ⟨w4.heap.size, 0, none⟩) 0 0) 0 []) := Lib.hid ((row_emp w4 _ _ _ rfl (Nat.le_refl _)).alloc _).drew
    have H3 : Hid (((w4.alloc (.cells #[.int .i64 0, .int .i64 0, .slice none 0 0] 52)).alloc (.cells #[] 3)).drew.ownsRow w4.heap.size 3 1 (.slice (some ⟨w4.heap.size + 1, 0, none⟩) 0 0) 0 []) := Lib.hid (row_emp (w4.alloc (.cells #[.int .i64 0, .int .i64 0, .slice none 0 0] 52)) _ _ _ (by simp) (by omega)).drew
    have A1 : Hid (Below w4.heap.size w4 (w4.alloc (.cells #[] 3)).drew) := Lib.hid ((Below.refl _ _).alloc (Nat.le_refl _) _).drew
    have A2 : Hid (Below w4.heap.size w4 ((w4.alloc (.cells #[] 3)).alloc (.cells #[.int .i64 0, .int .i64 0, .slice none 0 0] 52)).drew) := Lib.hid (((Below.refl _ _).alloc (Nat.le_refl _) _).alloc (by simp) _).drew
    have A3 : Hid (Below w4.heap.size w4 ((w4.alloc (.cells #[.int .i64 0, .int .i64 0, .slice none 0 0] 52)).alloc (.cells #[] 3)).drew) := Lib.hid (((Below.refl _ _).alloc (Nat.le_refl _) _).alloc (by simp) _).drew
    clear fx
    have hl4 : w.heap.size < w4.heap.size := by omega
    go_region_held3 (fun w' => w'.cell? ⟨w.heap.size, 0, none⟩ = some (.int .i64 N) ∧ w'.cell? ⟨w.heap.size, 1, none⟩ = some (.int .i64 R) ∧ w'.cell? ⟨w.heap.size, 2, none⟩ = some (.slice a' n c')) (first | (with_reducible exact ⟨keepD0 x0, keepD0 x1, keepD0 x2⟩) | (with_reducible exact ⟨keepD1 x0 _, keepD1 x1 _, keepD1 x2 _⟩) | (with_reducible exact ⟨keepD2 x0 _ _, keepD2 x1 _ _, keepD2 x2 _ _⟩) | (with_reducible exact ⟨kk0, kk1, kk2⟩) | (with_reducible exact ⟨keep kk0 _, keep kk1 _, keep kk2 _⟩) | (with_reducible exact ⟨keepS kk0 (by omega), keepS kk1 (by omega), keepS kk2 (by omega)⟩) | (trace "KEEP"; trace_state; fail))
      (first
        | (refine step_appA _ rfl elemI (.tmp 22) (.tmp 24) rfl w4.heap.size (.slice (some ⟨w4.heap.size, 0, none⟩) 0 0) 0 [] rfl H1.out a' n c' (xs.map (Value.int .i64)) rfl (V4.out.below A1.out) HL.out (ints_one _) JA.out (by omega) (by simp) n (Nat.zero_add n) (xs.map (Value.int .i64)) rfl ?_
           intro a5 c5 w5 hown5 hgrow5 hat5
           have HO5 := Lib.hid hown5
           have HB5 : Hid (Below w4.heap.size w4 w5) := Lib.hid (A1.out.grown hgrow5 (by simp) (by simp [Value.ownBlock]))
           have HZ5 : Hid ((Value.slice a5 n c5).ownBlock = some w4.heap.size ∨ (Value.slice a5 n c5).ownBlock = some (w4.heap.size + 1)) := Lib.hid (by simpa [Value.ownBlock] using hat5)
           have HM5 : Hid (w4.heap.size + 1 ≤ w5.heap.size) := Lib.hid (by have := hgrow5.size; simpa using this)
           have kk0 : w5.cell? ⟨w.heap.size, 0, none⟩ = some (.int .i64 N) := hgrow5.cell (keep x0 _) (by simp [Value.ownBlock]; omega)
           have kk1 : w5.cell? ⟨w.heap.size, 1, none⟩ = some (.int .i64 R) := hgrow5.cell (keep x1 _) (by simp [Value.ownBlock]; omega)
           have kk2 : w5.cell? ⟨w.heap.size, 2, none⟩ = some (.slice a' n c') := hgrow5.cell (keep x2 _) (by simp [Value.ownBlock]; omega))
        | (refine step_appA _ rfl elemI (.tmp 22) (.tmp 24) rfl w4.heap.size (.slice (some ⟨w4.heap.size, 0, none⟩) 0 0) 0 [] rfl H2.out a' n c' (xs.map (Value.int .i64)) rfl (V4.out.below A2.out) HL.out (ints_one _) JA.out (by omega) (by simp <;> omega) n (Nat.zero_add n) (xs.map (Value.int .i64)) rfl ?_
           intro a5 c5 w5 hown5 hgrow5 hat5
           have HO5 := Lib.hid hown5
           have HB5 : Hid (Below w4.heap.size w4 w5) := Lib.hid (A2.out.grown hgrow5 (by simp <;> omega) (by simp [Value.ownBlock]))
           have HZ5 : Hid ((Value.slice a5 n c5).ownBlock = some w4.heap.size ∨ (Value.slice a5 n c5).ownBlock = some (w4.heap.size + 2)) := Lib.hid (by simpa [Value.ownBlock] using hat5)
           have HM5 : Hid (Box w5 (w4.heap.size + 1) 52 [.int .i64 0, .int .i64 0, .slice none 0 0]) := Lib.hid ((hgrow5.block (w4.heap.size + 1) (by simp) (by simp [Value.ownBlock])).trans (Box.new2 _ _ _ _ (by simp)))
           have kk0 : w5.cell? ⟨w.heap.size, 0, none⟩ = some (.int .i64 N) := hgrow5.cell (keep (keep x0 _) _) (by simp [Value.ownBlock]; omega)
           have kk1 : w5.cell? ⟨w.heap.size, 1, none⟩ = some (.int .i64 R) := hgrow5.cell (keep (keep x1 _) _) (by simp [Value.ownBlock]; omega)
           have kk2 : w5.cell? ⟨w.heap.size, 2, none⟩ = some (.slice a' n c') := hgrow5.cell (keep (keep x2 _) _) (by simp [Value.ownBlock]; omega)
           obtain ⟨m0, m1, m2, mf⟩ := HM5.out.three)
        | (refine step_appA _ rfl elemI (.tmp 22) (.tmp 24) rfl w4.heap.size (.slice (some ⟨w4.heap.size + 1, 0, none⟩) 0 0) 0 [] rfl H3.out a' n c' (xs.map (Value.int .i64)) rfl (V4.out.below A3.out) HL.out (ints_one _) JA.out (by omega) (by simp <;> omega) n (Nat.zero_add n) (xs.map (Value.int .i64)) rfl ?_
           intro a5 c5 w5 hown5 hgrow5 hat5
           have HO5 := Lib.hid hown5
           have HB5 : Hid (Below w4.heap.size w4 w5) := Lib.hid (A3.out.grown hgrow5 (by simp <;> omega) (by simp [Value.ownBlock]))
           have HZ5 : Hid ((Value.slice a5 n c5).ownBlock = some (w4.heap.size + 1) ∨ (Value.slice a5 n c5).ownBlock = some (w4.heap.size + 2)) := Lib.hid (by simpa [Value.ownBlock] using hat5)
           have HM5 : Hid (Box w5 w4.heap.size 52 [.int .i64 0, .int .i64 0, .slice none 0 0]) := Lib.hid ((hgrow5.block w4.heap.size (by simp <;> omega) (by simp [Value.ownBlock])).trans ((Box.new2 _ _ _ _ rfl).alloc _))
           have kk0 : w5.cell? ⟨w.heap.size, 0, none⟩ = some (.int .i64 N) := hgrow5.cell (keep (keep x0 _) _) (by simp [Value.ownBlock]; omega)
           have kk1 : w5.cell? ⟨w.heap.size, 1, none⟩ = some (.int .i64 R) := hgrow5.cell (keep (keep x1 _) _) (by simp [Value.ownBlock]; omega)
           have kk2 : w5.cell? ⟨w.heap.size, 2, none⟩ = some (.slice a' n c') := hgrow5.cell (keep (keep x2 _) _) (by simp [Value.ownBlock]; omega)
           obtain ⟨m0, m1, m2, mf⟩ := HM5.out.three))
    all_goals
      go_wp2_with fail
      go_meet
      have hz := HZ5.out
    · refine ⟨w5.heap.size, a5, c5, rfl, HB5.out.size, Box.new2 _ _ _ _ rfl, HO5.out.alloc _, ?_, HB5.out.alloc HB5.out.size _⟩
      exact fun e => by have := (HO5.out.lt _ e).2; omega
    · refine ⟨w4.heap.size + 1, a5, c5, rfl, by omega, ((HM5.out.set 0 _).set 1 _).set 2 _, ?_, ?_, ((HB5.out.setCell (by simp) _).setCell (by simp) _).setCell (by simp) _⟩
      · have hne : (Value.slice a5 n c5).ownBlock ≠ some (w4.heap.size + 1) := by rcases hz with h | h <;> rw [h] <;> intro e <;> injection e with e <;> omega
        exact row_set (row_set (row_set HO5.out _ _ hne) _ _ hne) _ _ hne
      · rcases hz with h | h <;> rw [h] <;> intro e <;> injection e with e <;> omega
    · refine ⟨w4.heap.size, a5, c5, rfl, Nat.le_refl _, ((HM5.out.set 0 _).set 1 _).set 2 _, ?_, ?_, ((HB5.out.setCell (by simp) _).setCell (by simp) _).setCell (by simp) _⟩
      · have hne : (Value.slice a5 n c5).ownBlock ≠ some w4.heap.size := by rcases hz with h | h <;> rw [h] <;> intro e <;> injection e with e <;> omega
        exact row_set (row_set (row_set HO5.out _ _ hne) _ _ hne) _ _ hne
      · rcases hz with h | h <;> rw [h] <;> intro e <;> injection e with e <;> omega
  case rest =>
    obtain ⟨gx, a2, c2, rfl, hgx, hbx, hrx, hnx, hwx⟩ := hcut
    have HBX := Lib.hid hbx
    have HRX := Lib.hid hrx
    have HNX := Lib.hid hnx
    have HWX := Lib.hid hwx
    have zx := hwx.size
    have hgl := hbx.lt
    have By5 := Lib.hid (By4.out.below hwx (by omega))
    have Bx5 := Lib.hid (Bx4.out.below hwx (by omega))
    have E5 := Lib.hid (row_kept E4.out (below_grown hwx) (fun _ _ => by simp))
    have O5 := Lib.hid (row_kept O4.out (below_grown hwx) (fun _ _ => by simp))
    have B5 : Hid (Below w.heap.size w wc) := Lib.hid (B4.out.trans (hwx.mono (by omega)))
    have LTX := Lib.hid hrx.lt
    obtain ⟨x0, x1, x2, fx⟩ := Bx5.out.three
    obtain ⟨y0, y1, y2, fy⟩ := By5.out.three
    obtain ⟨u0, u1, u2, fu⟩ := hbx.three
    clear hbx hrx hnx hwx
    go_wp2
    go_loop [9] (fun i => ∃ (k : Nat), k ≤ K ∧ i = .int .i64 k) (fun i => n - (intOf i).toNat)
    case atStart => exact ⟨0, Nat.zero_le _, rfl⟩
    case round =>
      obtain ⟨k, hk, rfl⟩ := hrel
      by_cases hlt : k < K
      · have hkn : k < n := by omega
        obtain ⟨p1, off1, rfl, hp1, hcc⟩ := (own_ints HRX.out).1.at HX.out hkn
        have c0 := hcc k hkn
        have hxk := PL.out k hlt
        clear hcc
        generalize xs.getD k 0 = yk at *
        go_wp2
        go_round
        case rel => exact ⟨k + 1, by omega, by go_num⟩
        case measure => simp [intOf]; omega
      obtain rfl : k = K := by omega
      obtain ⟨ga, rfl⟩ := HN2.out
      have HIV : Hid (insV xs k x = xs.take k ++ x :: xs.drop k) := Lib.hid rfl
      have hkn : ¬ k < n := hK
      go_upto_region 13 with fail
      obtain ⟨wo, rfl⟩ : ∃ wo : World, wo = wc := ⟨_, rfl⟩
      have hgl2 : w.heap.size < wo.heap.size := by omega
      have VT : Hid (Vals wo (some ⟨ga, 0, none⟩) ((xs.take k).map (Value.int .i64))) := Lib.hid (Ints.vals ((own_ints O5.out).1.takeW k))
      have HLT : Hid (((xs.take k).map (Value.int .i64)).length = k * 1) := Lib.hid (by rw [List.length_map, List.length_take, HX.out]; omega)
      have R1 : Hid ((wo.alloc (.cells #[] 3)).drew.ownsRow wo.heap.size 3 1 (.slice (some ⟨wo.heap.size, 0, none⟩) 0 0) 0 []) := Lib.hid (row_emp wo _ _ _ rfl (Nat.le_refl _)).drew
      have R2 : Hid (((wo.alloc (.cells #[] 3)).alloc (.cells #[.int .i64 x] 3)).drew.ownsRow wo.heap.size 3 1 (.slice (some ⟨wo.heap.size, 0, none⟩) 0 0) 0 []) := Lib.hid ((row_emp wo _ _ _ rfl (Nat.le_refl _)).alloc _).drew
      have R3 : Hid (((wo.alloc (.cells #[.int .i64 x] 3)).alloc (.cells #[] 3)).drew.ownsRow wo.heap.size 3 1 (.slice (some ⟨wo.heap.size + 1, 0, none⟩) 0 0) 0 []) := Lib.hid (row_emp (wo.alloc (.cells #[.int .i64 x] 3)) _ _ _ (by simp) (by omega)).drew
      have A1 : Hid (Below wo.heap.size wo (wo.alloc (.cells #[] 3)).drew) := Lib.hid ((Below.refl _ _).alloc (Nat.le_refl _) _).drew
      have A2 : Hid (Below wo.heap.size wo ((wo.alloc (.cells #[] 3)).alloc (.cells #[.int .i64 x] 3)).drew) := Lib.hid (((Below.refl _ _).alloc (Nat.le_refl _) _).alloc (by simp) _).drew
      have A3 : Hid (Below wo.heap.size wo ((wo.alloc (.cells #[.int .i64 x] 3)).alloc (.cells #[] 3)).drew) := Lib.hid (((Below.refl _ _).alloc (Nat.le_refl _) _).alloc (by simp) _).drew
      have hi0 : (0 : Int) ≤ (k : Int) := by omega
      have hi1 : (k : Int) ≤ (c' : Int) := by have := (row_cap O5.out).1; omega
      have hi2 : (k : Int) ≤ (n : Int) := by omega
      have INS : Hid ((xs.take k ++ [x]).map (Value.int .i64) ++ [] = (insV xs k x).map (Value.int .i64)) := Lib.hid (by rw [List.append_nil, HIV.out, List.drop_eq_nil_of_le (by rw [HX.out]; omega)])
      go_cut [9] from 74 to 88 (fun s9 wx => YRel N R xs x n k gx wo s9 wx)
      case first =>
        rcases (show (c' = k) = True ∨ ¬ (c' = k) from (Decidable.em (c' = k)).imp (fun h => eq_true h) id) with hi3 | hi3
        all_goals
          go_region_held3 (fun w' => w'.cell? ⟨w.heap.size, 2, none⟩ = some (.slice (some ⟨ga, 0, none⟩) n c')) (first | (with_reducible exact keepD0 x2) | (with_reducible exact keepD1 x2 _) | (with_reducible exact keepD2 x2 _ _) | (with_reducible exact kk7) | (with_reducible exact kk6) | (with_reducible exact kk5) | (with_reducible exact keep kk5 _) | (with_reducible exact keepS1 kk7 (by omega)) | (trace "KEEP"; trace_state; fail))
      (first
        | (refine step_appA _ rfl elemI (.tmp 74) (.tmp 78) rfl wo.heap.size (.slice (some ⟨wo.heap.size, 0, none⟩) 0 0) 0 [] rfl R1.out (some ⟨ga, 0, none⟩) k c' ((xs.take k).map (Value.int .i64)) rfl (VT.out.below A1.out) HLT.out (ints_one _) (fun h => by cases h) (by omega) (by simp <;> omega) k (Nat.zero_add k) ((xs.take k).map (Value.int .i64)) rfl ?_
           intro a5 c5 w5 hown5 hgrow5 hat5
           have HO5 := Lib.hid hown5
           have HB5 : Hid (Below wo.heap.size wo w5) := Lib.hid (A1.out.grown hgrow5 (by simp <;> omega) (by simp [Value.ownBlock]))
           have HZ5 : Hid ((Value.slice a5 k c5).ownBlock ≠ some wo.heap.size ∨ True) := Lib.hid (.inr trivial)
           have kk5 : w5.cell? ⟨w.heap.size, 2, none⟩ = some (.slice (some ⟨ga, 0, none⟩) n c') := (HB5.out.cell (p := ⟨w.heap.size, 2, none⟩) (by simp; omega)).trans x2)
        | (refine step_appA _ rfl elemI (.tmp 74) (.tmp 78) rfl wo.heap.size (.slice (some ⟨wo.heap.size, 0, none⟩) 0 0) 0 [] rfl R2.out (some ⟨ga, 0, none⟩) k c' ((xs.take k).map (Value.int .i64)) rfl (VT.out.below A2.out) HLT.out (ints_one _) (fun h => by cases h) (by omega) (by simp <;> omega) k (Nat.zero_add k) ((xs.take k).map (Value.int .i64)) rfl ?_
           intro a5 c5 w5 hown5 hgrow5 hat5
           have HO5 := Lib.hid hown5
           have HB5 : Hid (Below wo.heap.size wo w5) := Lib.hid (A2.out.grown hgrow5 (by simp <;> omega) (by simp [Value.ownBlock]))
           have HZ5 : Hid ((Value.slice a5 k c5).ownBlock ≠ some wo.heap.size ∨ True) := Lib.hid (.inr trivial)
           have BV5 : Hid (Box w5 (wo.heap.size + 1) 3 [.int .i64 x]) := Lib.hid ((hgrow5.block (wo.heap.size + 1) (by simp <;> omega) (by simp [Value.ownBlock])).trans (Box.new2 _ _ _ _ (by simp)))
           have kk5 : w5.cell? ⟨w.heap.size, 2, none⟩ = some (.slice (some ⟨ga, 0, none⟩) n c') := (HB5.out.cell (p := ⟨w.heap.size, 2, none⟩) (by simp; omega)).trans x2)
        | (refine step_appA _ rfl elemI (.tmp 74) (.tmp 78) rfl wo.heap.size (.slice (some ⟨wo.heap.size + 1, 0, none⟩) 0 0) 0 [] rfl R3.out (some ⟨ga, 0, none⟩) k c' ((xs.take k).map (Value.int .i64)) rfl (VT.out.below A3.out) HLT.out (ints_one _) (fun h => by cases h) (by omega) (by simp <;> omega) k (Nat.zero_add k) ((xs.take k).map (Value.int .i64)) rfl ?_
           intro a5 c5 w5 hown5 hgrow5 hat5
           have HO5 := Lib.hid hown5
           have HB5 : Hid (Below wo.heap.size wo w5) := Lib.hid (A3.out.grown hgrow5 (by simp <;> omega) (by simp [Value.ownBlock]))
           have HZ5 : Hid ((Value.slice a5 k c5).ownBlock ≠ some wo.heap.size ∨ True) := Lib.hid (.inr trivial)
           have BV5 : Hid (Box w5 (wo.heap.size) 3 [.int .i64 x]) := Lib.hid ((hgrow5.block (wo.heap.size) (by simp <;> omega) (by simp [Value.ownBlock])).trans ((Box.new2 _ _ _ _ rfl).alloc _))
           have kk5 : w5.cell? ⟨w.heap.size, 2, none⟩ = some (.slice (some ⟨ga, 0, none⟩) n c') := (HB5.out.cell (p := ⟨w.heap.size, 2, none⟩) (by simp; omega)).trans x2)
        | (refine step_app' _ rfl elemI (.tmp 79) (.tmp 81) rfl wo.heap.size (.slice a5 k c5) k ((xs.take k).map (Value.int .i64)) rfl (HO5.out.alloc _) ⟨w5.heap.size, 0, none⟩ 1 1 [.int .i64 x] rfl rfl (news_of (Box.new2 _ _ _ _ rfl)) (one1 rfl) (by decide) (by omega) (by first | exact Nat.le_trans HB5.out.size (by simp) | exact HB5.out.size) (k + 1) rfl ((xs.take k ++ [x]).map (Value.int .i64)) (by simp) ?_
           intro b6 c6 w6 hown6 hgrow6 hat6 hlt6
           have HO6 := Lib.hid hown6
           have HB6 : Hid (Below wo.heap.size wo w6) := Lib.hid ((HB5.out.alloc HB5.out.size _).grown hgrow6 (Nat.le_trans HB5.out.size (by simp)) (fun g hg => (HO5.out.lt g hg).1))
           have kk6 : w6.cell? ⟨w.heap.size, 2, none⟩ = some (.slice (some ⟨ga, 0, none⟩) n c') := (HB6.out.cell (p := ⟨w.heap.size, 2, none⟩) (by simp; omega)).trans x2)
        | (refine step_app' _ rfl elemI (.tmp 79) (.tmp 81) rfl wo.heap.size (.slice a5 k c5) k ((xs.take k).map (Value.int .i64)) rfl HO5.out ⟨_, 0, none⟩ 1 1 [.int .i64 x] rfl rfl (news_of BV5.out) (one1 rfl) (by decide) (by omega) (by first | exact Nat.le_trans HB5.out.size (by simp) | exact HB5.out.size) (k + 1) rfl ((xs.take k ++ [x]).map (Value.int .i64)) (by simp) ?_
           intro b6 c6 w6 hown6 hgrow6 hat6 hlt6
           have HO6 := Lib.hid hown6
           have HB6 : Hid (Below wo.heap.size wo w6) := Lib.hid (HB5.out.grown hgrow6 (Nat.le_trans HB5.out.size (by simp)) (fun g hg => (HO5.out.lt g hg).1))
           have kk6 : w6.cell? ⟨w.heap.size, 2, none⟩ = some (.slice (some ⟨ga, 0, none⟩) n c') := (HB6.out.cell (p := ⟨w.heap.size, 2, none⟩) (by simp; omega)).trans x2)
        | (refine step_appA _ rfl elemI (.tmp 82) (.tmp 86) rfl wo.heap.size (.slice (some ⟨b6, 0, none⟩) (k + 1) c6) (k + 1) ((xs.take k ++ [x]).map (Value.int .i64)) rfl HO6.out _ _ _ [] rfl (.inl rfl) (by simp <;> omega) (fun _ h => by cases h) (fun h => by cases h) (by omega) HB6.out.size (n + 1) (by omega) ((insV xs k x).map (Value.int .i64)) INS.out ?_
           intro a7 c7 w7 hown7 hgrow7 hat7
           have HO7 := Lib.hid hown7
           have HB7 : Hid (Below wo.heap.size wo w7) := Lib.hid (HB6.out.grown hgrow7 HB6.out.size (fun g hg => (HO6.out.lt g hg).1))
           have kk7 : w7.cell? ⟨w.heap.size, 2, none⟩ = some (.slice (some ⟨ga, 0, none⟩) n c') := (HB7.out.cell (p := ⟨w.heap.size, 2, none⟩) (by simp; omega)).trans x2
           obtain ⟨m0, m1, m2, mf⟩ := (HBX.out.below HB7.out hgl).three)
        | fail)
          all_goals
            go_wp2_with fail
            go_meet
            obtain ⟨g3, c3, hv3, hg3, hg3l⟩ := HO7.out.form (by omega)
            injection hv3 with hv3 _ _
            subst hv3
            refine ⟨rfl, g3, c7, (HBX.out.below HB7.out hgl).set 2 _, (own_ints HO7.out).1.set _ _ (fun q hq => by cases hq; simp; omega), hg3, by simpa using hg3l, (row_cap HO7.out).1, ?_⟩
            exact grownBy.trans' ⟨HB7.out.os, HB7.out.tape, HB7.out.output, HB7.out.size, fun q hq _ => HB7.out.block q hq⟩ (gb_setp _ ⟨gx, 2, none⟩ _)
      case rest =>
        obtain ⟨rfl, g3, c3, hbx3, hi3x, hg3, hg3l, hn3, hgr3⟩ := hcut
        have nb : ∀ q, q < w4.heap.size → some q ≠ some gx := fun q hq e => by injection e with e; omega
        have zc := hgr3.size
        have E6 := Lib.hid (row_kept E5.out hgr3 (fun q hq e => by have e2 : some w2.heap.size = some q := hq; injection e2 with e2; injection e with e; omega))
        have Bx6 : Hid (Box wc w.heap.size 52 [.int .i64 N, .int .i64 R, .slice (some ⟨ga, 0, none⟩) n c']) := Lib.hid ((hgr3.block w.heap.size Bx5.out.lt (nb _ (by omega))).trans Bx5.out)
        have By6 : Hid (Box wc (w.heap.size + 1) 52 [.int .i64 0, .int .i64 0, .slice none 0 0]) := Lib.hid ((hgr3.block (w.heap.size + 1) By5.out.lt (nb _ (by omega))).trans By5.out)
        have I6 : Hid (Ints wc (some ⟨ga, 0, none⟩) xs) := Lib.hid ((own_ints O5.out).1.kept hgr3 (fun p hp => by cases hp; exact nb _ (by show ga < _; have := (LT.out ga rfl).2; omega)))
        have B6 : Hid (Below w.heap.size w wc) := Lib.hid (B5.out.grown hgr3 (by omega) (fun g hg => by injection hg; omega))
        have gal : ga < w2.heap.size := (O2.out.lt ga rfl).2
        have hbx3' : Box wc gx 52 [.int .i64 (N + ((0 : Nat) : Int)), .int .i64 R, .slice (some ⟨g3, 0, none⟩) (n + 1) c3] := by simpa using hbx3
        have HB3 := Lib.hid hbx3'
        have HI3 := Lib.hid hi3x
        have HLN : Hid ((insV xs k x).length = n + 1) := Lib.hid (by rw [insV_len (by rw [HX.out]; omega), HX.out])
        generalize insV xs k x = hs at *
        clear hbx3 hbx3' hi3x hgr3 nb x0 x1 x2 fx y0 y1 y2 fy u0 u1 u2 fu
        go_wp2
        go_loopw [7] (ZRel N R hs (n + 1) L gx w2.heap.size wc) (fun v _ => n + 3 - lenOfW v)
        case atStart => exact ⟨0, n + 1, _, _, ⟨g3, 0, none⟩, c3, Nat.zero_le _, rfl, rfl, E6.out, HB3.out, by simpa using HI3.out, by simp; omega, by simp; omega, hg3l, by simp; omega, by omega, hn3, Below.refl _ _⟩
        case round =>
          obtain ⟨j, m, b, bc, aa, cc, hj, hm, rfl, hown, hbx, hin, hab, hag, hal, hg2, hbg, hmc, hbl⟩ := hrel
          have HO := Lib.hid hown
          have HBX := Lib.hid hbx
          have HIN := Lib.hid hin
          have HBL := Lib.hid hbl
          obtain ⟨hb1, hb2⟩ := hown.lt b rfl
          have zr := hbl.size
          have hgr := hbx.lt
          obtain ⟨u0, u1, u2, fu⟩ := hbx.three
          have hdl : (hs.drop j).length = m := by rw [List.length_drop, HLN.out]; omega
          have HDL := Lib.hid hdl
          clear hown hbx hin hbl hdl
          by_cases hlt : j < L
          · have hm0 : 0 < m := by omega
            have hla := HLa.out j hlt
            obtain ⟨p1, off1, hpa, hp1, hcc⟩ := HIN.out.at (k := 0) HDL.out hm0
            injection hpa with hpa
            subst hpa
            have c0 := hcc 0 hm0
            rw [drop_getW, hla, show N - 1 + 1 + (j : Int) = N + (j : Int) by omega, Nat.add_zero] at c0
            clear hcc hla
            go_wp2
            go_quiet (fail)
            have hw1 : IntKind.i64.wrap (N + (j : Int) + 1) = N + (j : Int) + 1 := IntWalk.i64_in _ (by omega)
            by_cases hc1 : cc = 1
            · subst hc1
              obtain rfl : m = 1 := by omega
              go_wp2_with (at_builtin; refine wpl_app _ rfl elemI (.tmp 102) (.tmp 105) rfl w2.heap.size _ j _ rfl ((row_drewN HO.out _).alloc _) ⟨wr.heap.size, 0, none⟩ 1 1 [.int .i64 (N + (j : Int))] rfl rfl (news_of (Box.new2 _ 3 [_] _ rfl)) (one1 rfl) (by decide) ?c1 ?c2 (j + 1) rfl ((upFrom N (j + 1)).map (Value.int .i64)) ?c3 ?c4)
              case c1 => omega
              case c2 => simp; omega
              case c3 => rw [upFrom_succW N j, List.map_append]; simp
              case c4 =>
                intro b' cap'' w6 hown hgrow hat hlt6
                have hat2 : b = b' ∨ b' = wr.heap.size + 1 := by
                  rcases hat with h | h
                  · left; have e2 : some b = some b' := h; injection e2
                  · right; exact h
                have HA6 : Below w2.heap.size wr ((wr.drewN nq).alloc (.cells #[.int .i64 (N + (j : Int))] 3)) := (below_drewN (Below.refl _ wr) _).alloc (by simp; omega) _
                have HB6 : Hid (Below w2.heap.size wr w6) := Lib.hid (HA6.grown hgrow (by simp; omega) (fun g hg => by simp [Value.ownBlock] at hg; omega))
                have hne : some gx ≠ (Value.slice (some ⟨b, 0, none⟩) j bc).ownBlock := by simp [Value.ownBlock]; omega
                have HBX6 : Hid (Box w6 gx 52 [.int .i64 (N + (j : Int)), .int .i64 R, .slice (some ⟨p1, off1, none⟩) 1 1]) := Lib.hid ((hgrow.block gx (by simp; omega) hne).trans ((HBX.out.drewN _).alloc _))
                have HIN6 : Hid (Ints w6 (some ⟨p1, off1, none⟩) (hs.drop j)) := Lib.hid (((ints_drewN HIN.out nq).below ((Below.refl _ _).alloc (Nat.le_refl _) _)).kept hgrow (fun q hq => by cases hq; simp [Value.ownBlock]; simp at hab; omega))
                have HO6 := Lib.hid hown
                have hb6 := hown.lt b' rfl
                have z6 := HB6.out.size
                have z7 := hgrow.size
                obtain ⟨u0, u1, u2, fu⟩ := HBX6.out.three
                simp at hab hag hal
                simp at z7
                clear hown hgrow hat HA6
                go_wp2
                go_roundw
                case rel =>
                  refine ⟨j + 1, 1 - 1, b', cap'', ⟨p1, off1, none⟩, 1 - 1, by omega, by omega, rfl, row_set (row_set HO6.out _ _ (by simp [Value.ownBlock]; omega)) _ _ (by simp [Value.ownBlock]; omega), ?_, ?_, ?_, ?_, ?_, ?_, ?_, ?_, ?_⟩
                  · rw [show N + ((j + 1 : Nat) : Int) = N + (j : Int) + 1 by omega]
                    exact (HBX6.out.set 0 _).set 2 _
                  · exact .inl (List.eq_nil_of_length_eq_zero (by rw [List.length_drop, HLN.out]; omega))
                  · show p1 ≠ b'; omega
                  · show p1 ≠ gx; omega
                  · show p1 < _; simp; omega
                  · show w2.heap.size ≤ p1; exact hg2
                  · omega
                  · omega
                  · exact ((HBL.out.trans HB6.out).setCell (by simp; omega) _).setCell (by simp; omega) _
                case measure => simp [lenOfW]; omega
            · have hc2 : ¬ ((cc : Int) = 1) := by omega
              go_wp2_with (at_builtin; refine wpl_app _ rfl elemI (.tmp 102) (.tmp 105) rfl w2.heap.size _ j _ rfl ((row_drewN HO.out _).alloc _) ⟨wr.heap.size, 0, none⟩ 1 1 [.int .i64 (N + (j : Int))] rfl rfl (news_of (Box.new2 _ 3 [_] _ rfl)) (one1 rfl) (by decide) ?c1 ?c2 (j + 1) rfl ((upFrom N (j + 1)).map (Value.int .i64)) ?c3 ?c4)
              case c1 => omega
              case c2 => simp; omega
              case c3 => rw [upFrom_succW N j, List.map_append]; simp
              case c4 =>
                intro b' cap'' w6 hown hgrow hat hlt6
                have hat2 : b = b' ∨ b' = wr.heap.size + 1 := by
                  rcases hat with h | h
                  · left; have e2 : some b = some b' := h; injection e2
                  · right; exact h
                have HA6 : Below w2.heap.size wr ((wr.drewN nq).alloc (.cells #[.int .i64 (N + (j : Int))] 3)) := (below_drewN (Below.refl _ wr) _).alloc (by simp; omega) _
                have HB6 : Hid (Below w2.heap.size wr w6) := Lib.hid (HA6.grown hgrow (by simp; omega) (fun g hg => by simp [Value.ownBlock] at hg; omega))
                have hne : some gx ≠ (Value.slice (some ⟨b, 0, none⟩) j bc).ownBlock := by simp [Value.ownBlock]; omega
                have HBX6 : Hid (Box w6 gx 52 [.int .i64 (N + (j : Int)), .int .i64 R, .slice (some ⟨p1, off1, none⟩) m cc]) := Lib.hid ((hgrow.block gx (by simp; omega) hne).trans ((HBX.out.drewN _).alloc _))
                have HIN6 : Hid (Ints w6 (some ⟨p1, off1, none⟩) (hs.drop j)) := Lib.hid (((ints_drewN HIN.out nq).below ((Below.refl _ _).alloc (Nat.le_refl _) _)).kept hgrow (fun q hq => by cases hq; simp [Value.ownBlock]; simp at hab; omega))
                have HO6 := Lib.hid hown
                have hb6 := hown.lt b' rfl
                have z6 := HB6.out.size
                have z7 := hgrow.size
                obtain ⟨u0, u1, u2, fu⟩ := HBX6.out.three
                simp at hab hag hal
                simp at z7
                clear hown hgrow hat HA6
                go_wp2
                go_roundw
                case rel =>
                  refine ⟨j + 1, m - 1, b', cap'', ⟨p1, off1 + 1, none⟩, cc - 1, by omega, by omega, rfl, row_set (row_set HO6.out _ _ (by simp [Value.ownBlock]; omega)) _ _ (by simp [Value.ownBlock]; omega), ?_, ?_, ?_, ?_, ?_, ?_, ?_, ?_, ?_⟩
                  · rw [show N + ((j + 1 : Nat) : Int) = N + (j : Int) + 1 by omega]
                    exact (HBX6.out.set 0 _).set 2 _
                  · refine Ints.set (Ints.set ?_ _ _ (fun q hq => by cases hq; simp; omega)) _ _ (fun q hq => by cases hq; simp; omega)
                    rcases HIN6.out with h0 | ⟨b9, off9, h9, hb9, hc9⟩
                    · exact .inl (by
                        have := congrArg List.length h0
                        rw [List.length_drop, HLN.out] at this
                        simp at this
                        omega)
                    · cases h9
                      exact .inr ⟨p1, off1 + 1, rfl, hb9, fun j' hj' => by
                        have := hc9 (j' + 1) (by rw [List.length_drop] at hj' ⊢; omega)
                        rw [drop_get1W, Nat.add_assoc, Nat.add_comm 1 j']
                        exact this⟩
                  · show p1 ≠ b'; omega
                  · show p1 ≠ gx; omega
                  · show p1 < _; simp; omega
                  · show w2.heap.size ≤ p1; exact hg2
                  · omega
                  · omega
                  · exact ((HBL.out.trans HB6.out).setCell (by simp; omega) _).setCell (by simp; omega) _
                case measure => simp [lenOfW]; omega
          · have hjL : L = j := by omega
            have HRS : Hid (insRes N R xs hs L = insRes N R xs hs j) := Lib.hid (by rw [hjL])
            have hst := HLs.out
            rw [hjL] at hst
            have hcell : Hid (0 < m → ∃ p1 off1 y, aa = ⟨p1, off1, none⟩ ∧ wr.cell? ⟨p1, off1, none⟩ = some (.int .i64 y) ∧ y ≠ N + (j : Int)) := Lib.hid (fun hm0 => by
              obtain ⟨p1, off1, hp, _, hcc⟩ := HIN.out.at (k := 0) HDL.out hm0
              injection hp with hp
              have c0 := hcc 0 hm0
              rw [drop_getW, Nat.add_zero] at c0
              have hs1 := hst (by have := HDL.out; rw [List.length_drop] at this; omega)
              exact ⟨p1, off1, _, hp, c0, by omega⟩)
            have BX9 : Hid (Box wr w.heap.size 52 [.int .i64 N, .int .i64 R, .slice (some ⟨ga, 0, none⟩) n c']) := Lib.hid (Bx6.out.below HBL.out (by omega))
            have BY9 : Hid (Box wr (w.heap.size + 1) 52 [.int .i64 0, .int .i64 0, .slice none 0 0]) := Lib.hid (By6.out.below HBL.out (by omega))
            have V9 : Hid (Vals wr (some ⟨ga, 0, none⟩) (xs.map (Value.int .i64))) := Lib.hid (Ints.vals (I6.out.belowB HBL.out (fun q hq => by cases hq; exact gal)))
            have HLX : Hid ((xs.map (Value.int .i64)).length = n * 1) := Lib.hid (by rw [List.length_map, HX.out, Nat.mul_one])
            have B9 : Hid (Below w.heap.size w wr) := Lib.hid (B6.out.trans (HBL.out.mono (by omega)))
            have HAY : Hid (w2.heap.size ≤ aa.block) := Lib.hid hg2
            clear hst hjL
            go_upto_region 14 with fail
            go_cut [101] from 89 to 114 (fun s101 wx => s101 = .bool false ∧ Below wr.heap.size wr wx)
            case first =>
              by_cases hm0 : 0 < m
              · obtain ⟨p1, off1, y, rfl, c0, hy⟩ := hcell.out hm0
                have hyb : (y == N + (j : Int)) = false := beq_eq_false_iff_ne.2 hy
                go_quiet (fail)
                go_wp2_with fail
                go_meet
                exact ⟨rfl, below_drewN (Below.refl _ _) _⟩
              · have hm1 : m = 0 := by omega
                subst hm1
                go_quiet (fail)
                go_wp2_with fail
                go_meet
                exact ⟨rfl, below_drewN (Below.refl _ _) _⟩
            case rest =>
              obtain ⟨rfl, hwz⟩ := hcut
              obtain ⟨wz, rfl⟩ : ∃ wz : World, wz = wc := ⟨_, rfl⟩
              have zz := hwz.size
              have BXZ := Lib.hid (BX9.out.keep hwz)
              have BYZ := Lib.hid (BY9.out.keep hwz)
              have BGZ := Lib.hid (HBX.out.keep hwz)
              have VZ := Lib.hid (V9.out.below hwz)
              have IZ := Lib.hid (HIN.out.below hwz)
              have OZ := Lib.hid (row_below HO.out hwz)
              have BZ : Hid (Below w.heap.size w wz) := Lib.hid (B9.out.trans (hwz.mono (by have := B9.out.size; exact this)))
              clear hwz u0 u1 u2 fu
              obtain ⟨x0, x1, x2, fx⟩ := BXZ.out.three
              obtain ⟨y0, y1, y2, fy⟩ := BYZ.out.three
              obtain ⟨u0, u1, u2, fu⟩ := BGZ.out.three
              by_cases h5 : 100000 < N + (j : Int)
              · go_upto_region 19 with fail
                have P1 : Hid ((wz.alloc (.cells #[] 3)).drew.ownsRow wz.heap.size 3 1 (.slice (some ⟨wz.heap.size, 0, none⟩) 0 0) 0 []) := Lib.hid (row_emp wz _ _ _ rfl (Nat.le_refl _)).drew
                have P2 : Hid (((wz.alloc (.cells #[] 3)).alloc (.cells #[] 3)).drew.ownsRow wz.heap.size 3 1 (.slice (some ⟨wz.heap.size, 0, none⟩) 0 0) 0 []) := Lib.hid ((row_emp wz _ _ _ rfl (Nat.le_refl _)).alloc _).drew
                have P3 : Hid (((wz.alloc (.cells #[] 3)).alloc (.cells #[] 3)).drew.ownsRow wz.heap.size 3 1 (.slice (some ⟨wz.heap.size + 1, 0, none⟩) 0 0) 0 []) := Lib.hid (row_emp (wz.alloc (.cells #[] 3)) _ _ _ (by simp) (by omega)).drew
                have D1 : Hid (Below wz.heap.size wz (wz.alloc (.cells #[] 3)).drew) := Lib.hid ((Below.refl _ _).alloc (Nat.le_refl _) _).drew
                have D2 : Hid (Below wz.heap.size wz ((wz.alloc (.cells #[] 3)).alloc (.cells #[] 3)).drew) := Lib.hid (((Below.refl _ _).alloc (Nat.le_refl _) _).alloc (by simp) _).drew
                go_cut [5, 6] from 118 to 127 (fun s5 s6 wx => FRel N R xs n (w.heap.size + 1) w s5 s6 wx)
                case first =>
                  go_region_held3 (fun w' => w'.cell? ⟨w.heap.size, 0, none⟩ = some (.int .i64 N) ∧ w'.cell? ⟨w.heap.size, 1, none⟩ = some (.int .i64 R) ∧ w'.cell? ⟨w.heap.size, 2, none⟩ = some (.slice (some ⟨ga, 0, none⟩) n c')) (first | (with_reducible exact ⟨keepD0 x0, keepD0 x1, keepD0 x2⟩) | (with_reducible exact ⟨keepD1 x0 _, keepD1 x1 _, keepD1 x2 _⟩) | (with_reducible exact ⟨keepD2 x0 _ _, keepD2 x1 _ _, keepD2 x2 _ _⟩) | (with_reducible exact ⟨kk0, kk1, kk2⟩) | (with_reducible exact ⟨keep kk0 _, keep kk1 _, keep kk2 _⟩) | (with_reducible exact ⟨keepS kk0 (by omega), keepS kk1 (by omega), keepS kk2 (by omega)⟩) | (with_reducible exact ⟨keepS (keep kk0 _) (by omega), keepS (keep kk1 _) (by omega), keepS (keep kk2 _) (by omega)⟩) | (with_reducible exact ⟨keep (keepS kk0 (by omega)) _, keep (keepS kk1 (by omega)) _, keep (keepS kk2 (by omega)) _⟩) | (trace "KEEP"; trace_state; fail))
                    (first
                    | (refine step_appA _ rfl elemI (.tmp 122) (.tmp 124) rfl wz.heap.size (.slice (some ⟨wz.heap.size, 0, none⟩) 0 0) 0 [] rfl P1.out (some ⟨ga, 0, none⟩) n c' (xs.map (Value.int .i64)) rfl (VZ.out.below D1.out) HLX.out (ints_one _) (fun h => by cases h) (by omega) (by simp <;> omega) n (Nat.zero_add n) (xs.map (Value.int .i64)) rfl ?_
                       intro a7 c7 w7 hown7 hgrow7 hat7
                       have HO7 := Lib.hid hown7
                       have HB7 : Hid (Below wz.heap.size wz w7) := Lib.hid ((D1.out).grown hgrow7 (by simp <;> omega) (by simp [Value.ownBlock]))
                       have kk0 : w7.cell? ⟨w.heap.size, 0, none⟩ = some (.int .i64 N) := (HB7.out.cell (p := ⟨w.heap.size, 0, none⟩) (by simp; omega)).trans x0
                       have kk1 : w7.cell? ⟨w.heap.size, 1, none⟩ = some (.int .i64 R) := (HB7.out.cell (p := ⟨w.heap.size, 1, none⟩) (by simp; omega)).trans x1
                       have kk2 : w7.cell? ⟨w.heap.size, 2, none⟩ = some (.slice (some ⟨ga, 0, none⟩) n c') := (HB7.out.cell (p := ⟨w.heap.size, 2, none⟩) (by simp; omega)).trans x2
                       obtain ⟨y0, y1, y2, fy⟩ := (BYZ.out.keep HB7.out).three
                       have kz7 : w.heap.size + 1 < w7.heap.size := by have := HB7.out.size; omega)
                    | (refine step_appA _ rfl elemI (.tmp 122) (.tmp 124) rfl wz.heap.size (.slice (some ⟨wz.heap.size, 0, none⟩) 0 0) 0 [] rfl P2.out (some ⟨ga, 0, none⟩) n c' (xs.map (Value.int .i64)) rfl (VZ.out.below D2.out) HLX.out (ints_one _) (fun h => by cases h) (by omega) (by simp <;> omega) n (Nat.zero_add n) (xs.map (Value.int .i64)) rfl ?_
                       intro a7 c7 w7 hown7 hgrow7 hat7
                       have HO7 := Lib.hid hown7
                       have HB7 : Hid (Below wz.heap.size wz w7) := Lib.hid ((D2.out).grown hgrow7 (by simp <;> omega) (by simp [Value.ownBlock]))
                       have kk0 : w7.cell? ⟨w.heap.size, 0, none⟩ = some (.int .i64 N) := (HB7.out.cell (p := ⟨w.heap.size, 0, none⟩) (by simp; omega)).trans x0
                       have kk1 : w7.cell? ⟨w.heap.size, 1, none⟩ = some (.int .i64 R) := (HB7.out.cell (p := ⟨w.heap.size, 1, none⟩) (by simp; omega)).trans x1
                       have kk2 : w7.cell? ⟨w.heap.size, 2, none⟩ = some (.slice (some ⟨ga, 0, none⟩) n c') := (HB7.out.cell (p := ⟨w.heap.size, 2, none⟩) (by simp; omega)).trans x2
                       obtain ⟨y0, y1, y2, fy⟩ := (BYZ.out.keep HB7.out).three
                       have kz7 : w.heap.size + 1 < w7.heap.size := by have := HB7.out.size; omega)
                    | (refine step_appA _ rfl elemI (.tmp 122) (.tmp 124) rfl wz.heap.size (.slice (some ⟨wz.heap.size + 1, 0, none⟩) 0 0) 0 [] rfl P3.out (some ⟨ga, 0, none⟩) n c' (xs.map (Value.int .i64)) rfl (VZ.out.below D2.out) HLX.out (ints_one _) (fun h => by cases h) (by omega) (by simp <;> omega) n (Nat.zero_add n) (xs.map (Value.int .i64)) rfl ?_
                       intro a7 c7 w7 hown7 hgrow7 hat7
                       have HO7 := Lib.hid hown7
                       have HB7 : Hid (Below wz.heap.size wz w7) := Lib.hid ((D2.out).grown hgrow7 (by simp <;> omega) (by simp [Value.ownBlock]))
                       have kk0 : w7.cell? ⟨w.heap.size, 0, none⟩ = some (.int .i64 N) := (HB7.out.cell (p := ⟨w.heap.size, 0, none⟩) (by simp; omega)).trans x0
                       have kk1 : w7.cell? ⟨w.heap.size, 1, none⟩ = some (.int .i64 R) := (HB7.out.cell (p := ⟨w.heap.size, 1, none⟩) (by simp; omega)).trans x1
                       have kk2 : w7.cell? ⟨w.heap.size, 2, none⟩ = some (.slice (some ⟨ga, 0, none⟩) n c') := (HB7.out.cell (p := ⟨w.heap.size, 2, none⟩) (by simp; omega)).trans x2
                       obtain ⟨y0, y1, y2, fy⟩ := (BYZ.out.keep HB7.out).three
                       have kz7 : w.heap.size + 1 < w7.heap.size := by have := HB7.out.size; omega)
                    | fail)
                  all_goals
                    go_wp2_with fail
                    go_meet
                    have hay := own_blk HO7.out (g := w.heap.size + 1) (by omega)
                    have hI := (own_ints HO7.out).1
                    have hB := BYZ.out.keep HB7.out
                    have hW : Below w.heap.size w w7 := BZ.out.trans (HB7.out.mono (by omega))
                    have hz7 := HB7.out.size
                    refine ⟨_, a7, c7, rfl, rfl, ?_, ?_, own_none HO7.out, (fun q hq => Nat.le_trans BZ.out.size (own_fresh HO7.out q hq)), ?_⟩
                    · first | exact ((hB.set 0 _).set 1 _).set 2 _ | exact (((hB.alloc _).set 0 _).set 1 _).set 2 _ | exact (((hB.set 0 _).set 1 _).set 2 _).alloc _
                    · first | exact Ints.set (Ints.set (Ints.set hI _ _ hay) _ _ hay) _ _ hay | exact Ints.set (Ints.set (Ints.set (hI.below ((Below.refl _ _).alloc (Nat.le_refl _) _)) _ _ hay) _ _ hay) _ _ hay | exact (Ints.set (Ints.set (Ints.set hI _ _ hay) _ _ hay) _ _ hay).below ((Below.refl _ _).alloc (Nat.le_refl _) _)
                    · go_grown
                case rest =>
                  obtain ⟨q2, a7, c7, rfl, rfl, hbF, hiF, hnF, hfF, hwF⟩ := hcut
                  clear x0 x1 x2 fx y0 y1 y2 fy u0 u1 u2 fu
                  obtain ⟨y0, y1, y2, fy⟩ := hbF.three
                  go_step
                  refine wp_ret ?_
                  refine bodyPost_ret (v := .tuple #[.agg #[.int .i64 N, .int .i64 R, .slice a7 n c7], .slice (some ⟨q2, 0, none⟩) 0 0, .bool false]) (by simp [results, Try.results30, go_sem, y0, y1, y2]) rfl ?_
                  rw [HRS.out, insRes_far h5]
                  obtain rfl := HX.out
                  exact ⟨a7, c7, some ⟨q2, 0, none⟩, 0, rfl, hiF, .inl rfl, hnF, (fun h => by cases h), hfF, .inl rfl, hwF⟩
              · go_upto_region 20 with fail
                go_cut [5, 6] from 128 to 129 (fun s5 s6 wx => s5 = .slice (some ⟨b, 0, none⟩) j bc ∧ s6 = .bool true ∧ wx = ((wz.setCell ⟨w.heap.size + 1, 0, none⟩ (.int .i64 (N + (j : Int)))).setCell ⟨w.heap.size + 1, 1, none⟩ (.int .i64 R)).setCell ⟨w.heap.size + 1, 2, none⟩ (.slice (some aa) m cc))
                case first =>
                  go_wp2_with fail
                  go_meet
                  exact ⟨rfl, rfl, rfl⟩
                case rest =>
                  obtain ⟨rfl, rfl, rfl⟩ := hcut
                  go_step
                  refine wp_ret ?_
                  refine bodyPost_ret (v := .tuple #[.agg #[.int .i64 (N + (j : Int)), .int .i64 R, .slice (some aa) m cc], .slice (some ⟨b, 0, none⟩) j bc, .bool true]) (by simp [results, Try.results30, go_sem, y0, y1, y2]) rfl ?_
                  rw [HRS.out, insRes_on (by omega)]
                  have hb := BZ.out
                  have hdl := HDL.out
                  have hax : ∀ q, some aa = some q → q.block ≠ w.heap.size + 1 := fun q hq => by injection hq with hq; have h9 := HAY.out; rw [← hq]; omega
                  have hbx2 : ∀ q, some (⟨b, 0, none⟩ : Addr) = some q → q.block ≠ w.heap.size + 1 := fun q hq => by injection hq with hq; subst hq; simp; omega
                  refine ⟨some aa, cc, some ⟨b, 0, none⟩, bc, by rw [hdl, upFrom_len], ?_, ?_, (fun h => by cases h), (fun h => by cases h), (fun q hq => by injection hq with hq; have h9 := HAY.out; rw [← hq]; omega), .inr (fun q hq => by injection hq with hq; subst hq; have h9 := (OZ.out.lt b rfl).1; show w.heap.size ≤ b; omega), by go_grown⟩
                  · exact Ints.set (Ints.set (Ints.set IZ.out _ _ hax) _ _ hax) _ _ hax
                  · exact Ints.set (Ints.set (Ints.set (own_ints OZ.out).1 _ _ hbx2) _ _ hbx2) _ _ hbx2
end Go.Proofs.Ytalalapjanckdaa
