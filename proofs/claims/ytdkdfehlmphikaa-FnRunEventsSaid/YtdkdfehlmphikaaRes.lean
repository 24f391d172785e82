/- RunEvents of the reference. No condition but lists of at most 2^20. The text is written by a program (wip/mkres.py). -/
import Derived.Test.YtdkdfehlmphikaaRev
import Derived.Test.YtdkdfehlmphikaaOpS
namespace Go.Proofs.Ytdkdfehlmphikaa
open Go.RowKit
theorem run_ixV (o : Oper) (ρ : Operand → Value) (w : World) (x y : Operand) (b off n c j : Nat) (hj : j < n) (ho : o.op = .indexAddr 24 x y)
    (hx : ρ x = .slice (some ⟨b, off, none⟩) n c) (hy : ρ y = .int .i64 j) : (execOp ρ o).run Try.prog w = .ok (.value (.pointer (some ⟨b, off + j * 6, none⟩))) w := by
  simp [execOp, ho, hx, hy, hj, go_sem]
theorem run_fldV1 (o : Oper) (ρ : Operand → Value) (w : World) (x : Operand) (b off : Nat) (ho : o.op = .fieldAddr 39 x 1) (hx : ρ x = .pointer (some ⟨b, off, none⟩)) : (execOp ρ o).run Try.prog w = .ok (.value (.pointer (some ⟨b, off + 1, none⟩))) w := by
  simp [execOp, ho, hx, go_sem]
theorem run_fldV0 (o : Oper) (ρ : Operand → Value) (w : World) (x : Operand) (b off : Nat) (ho : o.op = .fieldAddr 39 x 0) (hx : ρ x = .pointer (some ⟨b, off, none⟩)) : (execOp ρ o).run Try.prog w = .ok (.value (.pointer (some ⟨b, off, none⟩))) w := by
  simp [execOp, ho, hx, go_sem]
theorem run_ldFv (o : Oper) (ρ : Operand → Value) (w : World) (x : Operand) (b off : Nat) (x1 x2 x3 x4 x5 : Int) (ho : o.op = .load 37 x) (hx : ρ x = .pointer (some ⟨b, off + 1, none⟩)) (c1 : w.cell? ⟨b, off + 1, none⟩ = some (.int .i64 x1)) (c2 : w.cell? ⟨b, off + 2, none⟩ = some (.int .i64 x2))
    (c3 : w.cell? ⟨b, off + 3, none⟩ = some (.int .i64 x3)) (c4 : w.cell? ⟨b, off + 4, none⟩ = some (.int .i64 x4)) (c5 : w.cell? ⟨b, off + 5, none⟩ = some (.int .i64 x5)) : (execOp ρ o).run Try.prog w = .ok (.value (.agg #[.int .i64 x1, .int .i64 x2, .int .i64 x3, .int .i64 x4, .int .i64 x5])) w := by
  have c2' : w.cell? ⟨b, off + 1 + 1, none⟩ = some (.int .i64 x2) := c2
  have c3' : w.cell? ⟨b, off + 1 + 2, none⟩ = some (.int .i64 x3) := c3
  have c4' : w.cell? ⟨b, off + 1 + 3, none⟩ = some (.int .i64 x4) := c4
  have c5' : w.cell? ⟨b, off + 1 + 4, none⟩ = some (.int .i64 x5) := c5
  simp [execOp, ho, hx, c1, c2', c3', c4', c5', go_sem]
theorem run_ldI (o : Oper) (ρ : Operand → Value) (w : World) (x : Operand) (a : Addr) (v : Value) (ho : o.op = .load 3 x) (hx : ρ x = .pointer (some a)) (hc : w.cell? a = some v) : (execOp ρ o).run Try.prog w = .ok (.value v) w := by
  simp [execOp, ho, hx, hc, go_sem]
theorem headR (w : World) (sz st : Int) : ∃ W, W = (((w.alloc (.cells #[.int .i64 0, .int .i64 0, .slice none 0 0] 30)).alloc (.cells #[] 3)).alloc (.cells #[] 69)).alloc (.cells #[.int .i64 sz, .int .i64 st, .slice (some ⟨w.heap.size + 2, 0, none⟩) 0 0] 30) ∧
    Below w.heap.size w W ∧ W.heap.size = w.heap.size + 4 ∧ Box W w.heap.size 30 [.int .i64 0, .int .i64 0, .slice none 0 0] ∧ Box W (w.heap.size + 3) 30 [.int .i64 sz, .int .i64 st, .slice (some ⟨w.heap.size + 2, 0, none⟩) 0 0] ∧
    W.ownsRow (w.heap.size + 1) 3 1 (.slice (some ⟨w.heap.size + 1, 0, none⟩) 0 0) 0 [] ∧ W.ownsRow (w.heap.size + 1) 69 7 (.slice (some ⟨w.heap.size + 2, 0, none⟩) 0 0) 0 [] := by
  refine ⟨_, rfl, ((((Below.refl _ _).alloc (Nat.le_refl _) _).alloc (by simp) _).alloc (by simp <;> omega) _).alloc (by simp <;> omega) _, by simp, ?_, ?_, ?_, ?_⟩
  · exact (((Box.new w _ [.int .i64 0, .int .i64 0, .slice none 0 0]).alloc _).alloc _).alloc _
  · exact Box.new2 _ _ [.int .i64 sz, .int .i64 st, .slice (some ⟨w.heap.size + 2, 0, none⟩) 0 0] _ (by simp)
  · exact ((row_emp (w.alloc _) (w.heap.size + 1) _ _ (by simp) (Nat.le_refl _)).alloc _).alloc _
  · exact (row_emp ((w.alloc _).alloc _) (w.heap.size + 2) _ _ (by simp) (by omega)).alloc _
set_option maxRecDepth 100000 in
set_option maxHeartbeats 8000000 in
theorem s_RunEvents (p : Option Addr) (pn pc : Nat) (hs : List H3) (sz st : Int) (a : Option Addr) (n cap : Nat) (vs : List V6) (w : World) (hps : hs.length = pn) (hpn : pn ≤ 1048576) (hP : Hosts w p hs) (hxs : vs.length = n) (hn : n ≤ 1048576) (hE : Evs w a vs) :
    Calls Try.prog 16 #[.slice p pn pc, .int .i64 sz, .int .i64 st, .slice a n cap] w (RetRun w (runT hs sz st vs)) := by
  have HP := Lib.hid hP
  have HE := Lib.hid hE
  have HX := Lib.hid hps
  have HM := Lib.hid hxs
  clear hP hE hps hxs
  have HQ : Hid (runT hs sz st vs = if runB hs sz st vs = true then ((runK hs sz st vs).2, (runK hs sz st vs).1, true) else ([], (0, 0, []), false)) := Lib.hid rfl
  have HB : Hid (runB hs sz st vs = (pv hs && tv sz st [] && evB vs)) := Lib.hid rfl
  obtain ⟨w1, hw1, b1, sz1, xz, xt, xo, xr⟩ := headR w sz st
  have HW1 := Lib.hid hw1
  have zz1 := b1.size
  have D1 := Lib.hid b1
  have Z1 := Lib.hid xz
  have T1 := Lib.hid xt
  have O1 := Lib.hid xo
  have R1 := Lib.hid xr
  clear hw1 b1 xz xt xo xr
  go_enter Try.func16, Try.ntmps16
  go_wp2_with fail
  rw [← HW1.out]
  refine (s_PoolValid p pn pc hs _ HX.out hpn (HP.out.below D1.out)).mono ?_
  rintro e w2 ⟨rfl, b2⟩
  have zz2 := b2.size
  have D2 := Lib.hid (Below.step D1.out b2 (by omega))
  have Z2 := Lib.hid (Z1.out.keep b2)
  have T2 := Lib.hid (T1.out.keep b2)
  have O2 := Lib.hid (row_below O1.out b2)
  have R2 := Lib.hid (row_below R1.out b2)
  clear b2 D1 Z1 T1 O1 R1
  cases h0 : pv hs
  · skip
    have HR : Hid (runT hs sz st vs = ([], (0, 0, []), false)) := Lib.hid (by rw [HQ.out, HB.out, h0]; rfl)
    clear HQ HB h0
    obtain ⟨z_0, z_1, z_2, z_f⟩ := Z2.out.three
    go_wp2
    refine bodyPost_ret (v := .tuple #[.slice (some ⟨w.heap.size + 1, 0, none⟩) 0 0, .agg #[.int .i64 0, .int .i64 0, .slice none 0 0], .bool false]) (by simp [results, Try.results16, go_sem, z_0, z_1, z_2]) rfl ?_
    have hne := row_ne O2.out Z2.out (by decide)
    exact retRun HR.out (row_wider (row_set (row_set (row_set O2.out _ _ hne) _ _ hne) _ _ hne) (by omega)) (row_nil _ _ _ _) (((D2.out.setCell (Nat.le_refl _) _).setCell (Nat.le_refl _) _).setCell (Nat.le_refl _) _)
  obtain ⟨t_0, t_1, t_2, t_f⟩ := T2.out.three
  go_wp2_with fail
  refine (s_TableValid sz st _ 0 0 [] _ rfl (by omega) (by omega) (.inl rfl)).mono ?_
  rintro e w3 ⟨rfl, b3⟩
  clear t_0 t_1 t_2 t_f
  have zz3 := b3.size
  have D3 := Lib.hid (Below.step D2.out b3 (by omega))
  have Z3 := Lib.hid (Z2.out.keep b3)
  have T3 := Lib.hid (T2.out.keep b3)
  have O3 := Lib.hid (row_below O2.out b3)
  have R3 := Lib.hid (row_below R2.out b3)
  clear b3 D2 Z2 T2 O2 R2
  cases h1 : tv sz st []
  · skip
    have HR : Hid (runT hs sz st vs = ([], (0, 0, []), false)) := Lib.hid (by rw [HQ.out, HB.out, h0, h1]; rfl)
    clear HQ HB h0 h1
    obtain ⟨z_0, z_1, z_2, z_f⟩ := Z3.out.three
    go_wp2
    refine bodyPost_ret (v := .tuple #[.slice (some ⟨w.heap.size + 1, 0, none⟩) 0 0, .agg #[.int .i64 0, .int .i64 0, .slice none 0 0], .bool false]) (by simp [results, Try.results16, go_sem, z_0, z_1, z_2]) rfl ?_
    have hne := row_ne O3.out Z3.out (by decide)
    exact retRun HR.out (row_wider (row_set (row_set (row_set O3.out _ _ hne) _ _ hne) _ _ hne) (by omega)) (row_nil _ _ _ _) (((D3.out.setCell (Nat.le_refl _) _).setCell (Nat.le_refl _) _).setCell (Nat.le_refl _) _)
  go_wp2_with fail
  refine (s_EventsValid a n cap vs _ HM.out hn (HE.out.below D3.out)).mono ?_
  rintro e w4 ⟨rfl, b4⟩
  have zz4 := b4.size
  have D4 := Lib.hid (Below.step D3.out b4 (by omega))
  have Z4 := Lib.hid (Z3.out.keep b4)
  have T4 := Lib.hid (T3.out.keep b4)
  have O4 := Lib.hid (row_below O3.out b4)
  have R4 := Lib.hid (row_below R3.out b4)
  clear b4 D3 Z3 T3 O3 R3
  cases h2 : evB vs
  · skip
    have HR : Hid (runT hs sz st vs = ([], (0, 0, []), false)) := Lib.hid (by rw [HQ.out, HB.out, h0, h1, h2]; rfl)
    clear HQ HB h0 h1 h2
    obtain ⟨z_0, z_1, z_2, z_f⟩ := Z4.out.three
    go_wp2
    refine bodyPost_ret (v := .tuple #[.slice (some ⟨w.heap.size + 1, 0, none⟩) 0 0, .agg #[.int .i64 0, .int .i64 0, .slice none 0 0], .bool false]) (by simp [results, Try.results16, go_sem, z_0, z_1, z_2]) rfl ?_
    have hne := row_ne O4.out Z4.out (by decide)
    exact retRun HR.out (row_wider (row_set (row_set (row_set O4.out _ _ hne) _ _ hne) _ _ hne) (by omega)) (row_nil _ _ _ _) (((D4.out.setCell (Nat.le_refl _) _).setCell (Nat.le_refl _) _).setCell (Nat.le_refl _) _)
  have HRB : Hid (runB hs sz st vs = true) := Lib.hid (by rw [HB.out, h0, h1, h2]; rfl)
  have HQ2 := Lib.hid (HQ.out.trans (if_pos HRB.out))
  clear HQ HB h0 h1 h2
  have hlo : w.heap.size + 4 ≤ w4.heap.size := by omega
  have hn40 : n ≤ 40 := by
    have := HRB.out
    simp only [runB, Bool.and_eq_true] at this
    have := (ev_EV this.2).room
    have := HM.out
    omega
  go_wp2
  go_loopw [11, 13] (fun v i wr => RunR hs sz st vs (w.heap.size + 3) (w.heap.size + 1) w4 i v wr) (fun _ i _ => n - (intOf i).toNat)
  case atStart =>
    exact ⟨0, sz, st, [], [], _, _, _, _, Nat.zero_le _, rfl, run_zero _ _ _ _, rfl, T4.out, R4.out, O4.out, Below.refl _ _⟩
  case round =>
    obtain ⟨w6, rfl⟩ : ∃ W, W = wr := ⟨_, rfl⟩
    obtain ⟨k, d1, d2, d3, xs, ta, tc, b, d, hk, rfl, hst, rfl, hT, hR, hO, hG⟩ := hrel
    rw [HM.out] at hk
    obtain ⟨hd3, hxl⟩ := run_tab HRB.out (by rw [HM.out]; exact hk) hst
    simp only at hd3
    have hxl40 : xs.length ≤ 40 := by omega
    clear hxl
    have HST := Lib.hid hst
    have BT6 := Lib.hid hT
    have RE6 := Lib.hid hR
    have RO6 := Lib.hid hO
    have G6 := Lib.hid hG
    have zr := hG.size
    have DR6 : Hid (Below w.heap.size w w6) := Lib.hid (D4.out.trans (hG.mono (by omega)))
    have ZR6 : Hid (Box w6 w.heap.size 30 [.int .i64 0, .int .i64 0, .slice none 0 0]) := Lib.hid (Z4.out.below hG (by omega))
    clear hst hT hR hO hG
    by_cases hlt : k < n
    · obtain ⟨bb, off, rfl, hbl, hc⟩ := (HE.out.below DR6.out).at HM.out hlt
      obtain ⟨q0, q1, q2, q3, q4, q5⟩ := hc k hlt
      have HKS := Lib.hid (run_succ hs sz st (vs := vs) (i := k) (by rw [HM.out]; exact hlt))
      clear hc
      generalize hE : vs.getD k v0 = E at *
      obtain ⟨x0, x1, x2, x3, x4, x5⟩ := E
      clear hE
      dsimp only at q0 q1 q2 q3 q4 q5
      obtain ⟨⟨⟨u1, u2, u3⟩, u4⟩, hu⟩ : ∃ u, fwdT hs (d1, d2, d3) (x1, x2, x3, x4, x5) x0 = u := ⟨_, rfl⟩
      have hul := fwd_len (hs := hs) (t := (d1, d2, d3)) (f := (x1, x2, x3, x4, x5)) (now := x0)
      rw [hu] at hul
      simp only at hul
      have HKN : Hid (runK hs sz st (vs.take (k + 1)) = ((u1, u2, u3), xs ++ [u4])) := Lib.hid (by rw [HKS.out, HST.out]; simp only [runS, hu])
      have HFF : Hid (∀ wq : World, Below w6.heap.size w6 wq → Calls Try.prog 23 #[.slice p pn pc, .agg #[.int .i64 d1, .int .i64 d2, .slice ta d3.length tc], .agg #[.int .i64 x1, .int .i64 x2, .int .i64 x3, .int .i64 x4, .int .i64 x5], .int .i64 x0] wq (RetFw wq ((u1, u2, u3), u4))) := Lib.hid (fun wq hb => by
        have := s_ForwardPacket p pn pc hs d1 d2 ta d3.length tc d3 (x1, x2, x3, x4, x5) x0 wq HX.out hpn ((HP.out.below DR6.out).below hb) rfl (by omega) ((EntRow.ents RE6.out).below hb) (own_none RE6.out)
        rw [hu] at this
        exact this)
      clear hu HKS
      go_upto_region 8 with fail
      obtain ⟨hfr, hdi⟩ := bs_one (x := ⟨14, 30, [.int .i64 0, .int .i64 0, .slice none 0 0], .row w6.heap.size 69 7 u3.length (eCells u3) (fun s => .agg #[.int .i64 u1, .int .i64 u2, s])⟩) (by kernel_rfl)
      refine region_anyS _ 18 65 [43, 44, 45, 46, 47, 48, 49, 50, 51, 52, 53, 54, 55, 42, 56, 57, 14] [⟨14, 30, [.int .i64 0, .int .i64 0, .slice none 0 0], .row w6.heap.size 69 7 u3.length (eCells u3) (fun s => .agg #[.int .i64 u1, .int .i64 u2, s])⟩] [(43, .val (.slice p pn pc)), (44, .val (.agg #[.int .i64 d1, .int .i64 d2, .slice ta d3.length tc])), (45, .val (.slice (some ⟨bb, off, none⟩) n cap)), (46, .val (.int .i64 k)), (47, .val (.pointer (some ⟨bb, off + k * 6, none⟩))), (48, .val (.pointer (some ⟨bb, off + k * 6 + 1, none⟩))), (49, .val (.agg #[.int .i64 x1, .int .i64 x2, .int .i64 x3, .int .i64 x4, .int .i64 x5])), (50, .val (.slice (some ⟨bb, off, none⟩) n cap)), (51, .val (.int .i64 k)), (52, .val (.pointer (some ⟨bb, off + k * 6, none⟩))), (53, .val (.pointer (some ⟨bb, off + k * 6, none⟩))), (54, .val (.int .i64 x0)), (55, .row w6.heap.size 69 7 u3.length (eCells u3) (fun s => .tuple #[.agg #[.int .i64 u1, .int .i64 u2, s], .int .i64 u4])), (42, .row w6.heap.size 69 7 u3.length (eCells u3) (fun s => .tuple #[.agg #[.int .i64 u1, .int .i64 u2, s], .int .i64 u4])), (56, .row w6.heap.size 69 7 u3.length (eCells u3) (fun s => .agg #[.int .i64 u1, .int .i64 u2, s])), (57, .val (.int .i64 u4))] rfl (by kernel_rfl) hfr (spAt_free (by kernel_rfl)) hdi (by kernel_rfl) ?_ ?_
      · clear hfr hdi
        refine ⟨?_, ?_, ?_, ?_, ?_, ?_, ?_, ?_, ?_, ?_, ?_, ?_, ?_, ?_, ?_, ?_, ?_, ?_, trivial⟩
        · refine opS_any (d := 43) rfl rfl (by kernel_rfl) ?_
          refine op_val (d := 43) rfl (.slice p pn pc) (fun fr9 wq hf _ hb => ⟨?_, ?_⟩) _
          rotate_left
          · exact rfl
          exact (run_mv _ _ _ (.tmp 0) _ (hf 0 (by kernel_rfl))).1 rfl
        · refine opS_any (d := 44) rfl rfl (by kernel_rfl) ?_
          refine op_val (d := 44) rfl (.agg #[.int .i64 d1, .int .i64 d2, .slice ta d3.length tc]) (fun fr9 wq hf _ hb => ⟨?_, ?_⟩) _
          rotate_left
          · exact rfl
          exact run_ldTi _ _ _ (.tmp 12) _ _ _ _ rfl (hf 12 (by kernel_rfl)) (BT6.out.keep hb)
        · refine opS_any (d := 45) rfl rfl (by kernel_rfl) ?_
          refine op_val (d := 45) rfl (.slice (some ⟨bb, off, none⟩) n cap) (fun fr9 wq hf _ hb => ⟨?_, ?_⟩) _
          rotate_left
          · exact rfl
          exact (run_mv _ _ _ (.tmp 3) _ (hf 3 (by kernel_rfl))).1 rfl
        · refine opS_any (d := 46) rfl rfl (by kernel_rfl) ?_
          refine op_val (d := 46) rfl (.int .i64 k) (fun fr9 wq hf _ hb => ⟨?_, ?_⟩) _
          rotate_left
          · exact rfl
          exact (run_mv _ _ _ (.tmp 13) _ (hf 13 (by kernel_rfl))).1 rfl
        · refine opS_any (d := 47) rfl rfl (by kernel_rfl) ?_
          refine op_val (d := 47) rfl (.pointer (some ⟨bb, off + k * 6, none⟩)) (fun fr9 wq hf hd hb => ⟨?_, ?_⟩) _
          rotate_left
          · exact rfl
          have e45 : fr9.tmps.getD 45 undef = .slice (some ⟨bb, off, none⟩) n cap := hd 45 (by kernel_rfl)
          have e46 : fr9.tmps.getD 46 undef = .int .i64 k := hd 46 (by kernel_rfl)
          exact run_ixV _ _ _ (.tmp 45) (.tmp 46) bb off n cap k hlt rfl e45 e46
        · refine opS_any (d := 48) rfl rfl (by kernel_rfl) ?_
          refine op_val (d := 48) rfl (.pointer (some ⟨bb, off + k * 6 + 1, none⟩)) (fun fr9 wq hf hd hb => ⟨?_, ?_⟩) _
          rotate_left
          · exact rfl
          have e47 : fr9.tmps.getD 47 undef = .pointer (some ⟨bb, off + k * 6, none⟩) := hd 47 (by kernel_rfl)
          exact run_fldV1 _ _ _ (.tmp 47) bb _ rfl e47
        · refine opS_any (d := 49) rfl rfl (by kernel_rfl) ?_
          refine op_val (d := 49) rfl (.agg #[.int .i64 x1, .int .i64 x2, .int .i64 x3, .int .i64 x4, .int .i64 x5]) (fun fr9 wq hf hd hb => ⟨?_, ?_⟩) _
          rotate_left
          · exact rfl
          have e48 : fr9.tmps.getD 48 undef = .pointer (some ⟨bb, off + k * 6 + 1, none⟩) := hd 48 (by kernel_rfl)
          exact run_ldFv _ _ _ (.tmp 48) bb _ x1 x2 x3 x4 x5 rfl e48 ((hb.cell (World.block_lt_of_cell? _ _ q1)).trans q1) ((hb.cell (World.block_lt_of_cell? _ _ q2)).trans q2) ((hb.cell (World.block_lt_of_cell? _ _ q3)).trans q3) ((hb.cell (World.block_lt_of_cell? _ _ q4)).trans q4) ((hb.cell (World.block_lt_of_cell? _ _ q5)).trans q5)
        · refine opS_any (d := 50) rfl rfl (by kernel_rfl) ?_
          refine op_val (d := 50) rfl (.slice (some ⟨bb, off, none⟩) n cap) (fun fr9 wq hf _ hb => ⟨?_, ?_⟩) _
          rotate_left
          · exact rfl
          exact (run_mv _ _ _ (.tmp 3) _ (hf 3 (by kernel_rfl))).1 rfl
        · refine opS_any (d := 51) rfl rfl (by kernel_rfl) ?_
          refine op_val (d := 51) rfl (.int .i64 k) (fun fr9 wq hf _ hb => ⟨?_, ?_⟩) _
          rotate_left
          · exact rfl
          exact (run_mv _ _ _ (.tmp 13) _ (hf 13 (by kernel_rfl))).1 rfl
        · refine opS_any (d := 52) rfl rfl (by kernel_rfl) ?_
          refine op_val (d := 52) rfl (.pointer (some ⟨bb, off + k * 6, none⟩)) (fun fr9 wq hf hd hb => ⟨?_, ?_⟩) _
          rotate_left
          · exact rfl
          have e50 : fr9.tmps.getD 50 undef = .slice (some ⟨bb, off, none⟩) n cap := hd 50 (by kernel_rfl)
          have e51 : fr9.tmps.getD 51 undef = .int .i64 k := hd 51 (by kernel_rfl)
          exact run_ixV _ _ _ (.tmp 50) (.tmp 51) bb off n cap k hlt rfl e50 e51
        · refine opS_any (d := 53) rfl rfl (by kernel_rfl) ?_
          refine op_val (d := 53) rfl (.pointer (some ⟨bb, off + k * 6, none⟩)) (fun fr9 wq hf hd hb => ⟨?_, ?_⟩) _
          rotate_left
          · exact rfl
          have e52 : fr9.tmps.getD 52 undef = .pointer (some ⟨bb, off + k * 6, none⟩) := hd 52 (by kernel_rfl)
          exact run_fldV0 _ _ _ (.tmp 52) bb _ rfl e52
        · refine opS_any (d := 54) rfl rfl (by kernel_rfl) ?_
          refine op_val (d := 54) rfl (.int .i64 x0) (fun fr9 wq hf hd hb => ⟨?_, ?_⟩) _
          rotate_left
          · exact rfl
          have e53 : fr9.tmps.getD 53 undef = .pointer (some ⟨bb, off + k * 6, none⟩) := hd 53 (by kernel_rfl)
          exact run_ldI _ _ _ (.tmp 53) _ _ rfl e53 ((hb.cell (World.block_lt_of_cell? _ _ q0)).trans q0)
        · refine opS_any (d := 55) rfl rfl (by kernel_rfl) ?_
          intro fr9 wq hf hd hb
          have e43 : fr9.tmps.getD 43 undef = .slice p pn pc := hd 43 (by kernel_rfl)
          have e44 : fr9.tmps.getD 44 undef = .agg #[.int .i64 d1, .int .i64 d2, .slice ta d3.length tc] := hd 44 (by kernel_rfl)
          have e49 : fr9.tmps.getD 49 undef = .agg #[.int .i64 x1, .int .i64 x2, .int .i64 x3, .int .i64 x4, .int .i64 x5] := hd 49 (by kernel_rfl)
          have e54 : fr9.tmps.getD 54 undef = .int .i64 x0 := hd 54 (by kernel_rfl)
          have hv9 : (#[Operand.tmp 43, Operand.tmp 44, Operand.tmp 49, Operand.tmp 54] : Array Operand).map fr9.eval = #[.slice p pn pc, .agg #[.int .i64 d1, .int .i64 d2, .slice ta d3.length tc], .agg #[.int .i64 x1, .int .i64 x2, .int .i64 x3, .int .i64 x4, .int .i64 x5], .int .i64 x0] := by simp only [List.map_toArray, List.map_cons, List.map_nil, Act.eval, e43, e44, e49, e54]
          refine ⟨55, rfl, op_call rfl (run_callL _ _ _ 23 _ _ _ rfl rfl hv9 (enters_of Try.func23 (by kernel_rfl) rfl)) ?_⟩
          refine (HFF.out wq hb).mono ?_
          rintro e w5 ⟨a5, c5, rfl, o5, g5⟩
          exact ⟨_, rfl, _, rfl, ⟨a5, c5, rfl, row_wider o5 hb.size⟩, grown_below g5⟩
        · refine opS_any (d := 42) rfl rfl (by kernel_rfl) ?_
          intro fr9 wq hf hd hb
          obtain ⟨a55, c55, e55, o55⟩ : ∃ (a2 : Option Addr) (c2 : Nat), fr9.tmps.getD 55 undef = .tuple #[.agg #[.int .i64 u1, .int .i64 u2, .slice a2 u3.length c2], .int .i64 u4] ∧ wq.ownsRow w6.heap.size 69 7 (.slice a2 u3.length c2) u3.length (eCells u3) := hd 55 (by kernel_rfl)
          exact ⟨42, rfl, wp_val2 rfl ((run_mv _ _ _ (.tmp 55) _ e55).1 rfl) ⟨_, rfl, ⟨a55, c55, rfl, o55⟩, Below.refl _ _⟩⟩
        · refine opS_any (d := 56) rfl rfl (by kernel_rfl) ?_
          intro fr9 wq hf hd hb
          obtain ⟨a42, c42, e42, o42⟩ : ∃ (a2 : Option Addr) (c2 : Nat), fr9.tmps.getD 42 undef = .tuple #[.agg #[.int .i64 u1, .int .i64 u2, .slice a2 u3.length c2], .int .i64 u4] ∧ wq.ownsRow w6.heap.size 69 7 (.slice a2 u3.length c2) u3.length (eCells u3) := hd 42 (by kernel_rfl)
          exact ⟨56, rfl, wp_val2 rfl (run_ext _ _ _ (.tmp 42) 0 _ _ rfl e42 rfl) ⟨_, rfl, ⟨a42, c42, rfl, o42⟩, Below.refl _ _⟩⟩
        · refine opS_any (d := 57) rfl rfl (by kernel_rfl) ?_
          intro fr9 wq hf hd hb
          obtain ⟨a42, c42, e42, o42⟩ : ∃ (a2 : Option Addr) (c2 : Nat), fr9.tmps.getD 42 undef = .tuple #[.agg #[.int .i64 u1, .int .i64 u2, .slice a2 u3.length c2], .int .i64 u4] ∧ wq.ownsRow w6.heap.size 69 7 (.slice a2 u3.length c2) u3.length (eCells u3) := hd 42 (by kernel_rfl)
          exact ⟨57, rfl, wp_val2 rfl (run_ext _ _ _ (.tmp 42) 1 _ _ rfl e42 rfl) ⟨_, rfl, rfl, Below.refl _ _⟩⟩
        · exact opS_alloc (d := 14) rfl rfl (fun ρ wq => run_alTi _ ρ wq rfl) _
        · exact opS_store 14 56 30 rfl rfl rfl rfl (by kernel_rfl) (by kernel_rfl) rfl (fun ρ wq g cs u hx hy hb hc hu => st_tableS rfl g cs u hx hy hb hc hu) _
      · clear hfr hdi
        intro fq wq hf hbq
        have e43 : fq 43 = .slice p pn pc := hf 43 (by decide)
        have e44 : fq 44 = .agg #[.int .i64 d1, .int .i64 d2, .slice ta d3.length tc] := hf 44 (by decide)
        have e45 : fq 45 = .slice (some ⟨bb, off, none⟩) n cap := hf 45 (by decide)
        have e46 : fq 46 = .int .i64 k := hf 46 (by decide)
        have e47 : fq 47 = .pointer (some ⟨bb, off + k * 6, none⟩) := hf 47 (by decide)
        have e48 : fq 48 = .pointer (some ⟨bb, off + k * 6 + 1, none⟩) := hf 48 (by decide)
        have e49 : fq 49 = .agg #[.int .i64 x1, .int .i64 x2, .int .i64 x3, .int .i64 x4, .int .i64 x5] := hf 49 (by decide)
        have e50 : fq 50 = .slice (some ⟨bb, off, none⟩) n cap := hf 50 (by decide)
        have e51 : fq 51 = .int .i64 k := hf 51 (by decide)
        have e52 : fq 52 = .pointer (some ⟨bb, off + k * 6, none⟩) := hf 52 (by decide)
        have e53 : fq 53 = .pointer (some ⟨bb, off + k * 6, none⟩) := hf 53 (by decide)
        have e54 : fq 54 = .int .i64 x0 := hf 54 (by decide)
        obtain ⟨a55, c55, e55, o55⟩ : ∃ (a2 : Option Addr) (c2 : Nat), fq 55 = .tuple #[.agg #[.int .i64 u1, .int .i64 u2, .slice a2 u3.length c2], .int .i64 u4] ∧ wq.ownsRow w6.heap.size 69 7 (.slice a2 u3.length c2) u3.length (eCells u3) := hf 55 (by decide)
        clear o55
        obtain ⟨a42, c42, e42, o42⟩ : ∃ (a2 : Option Addr) (c2 : Nat), fq 42 = .tuple #[.agg #[.int .i64 u1, .int .i64 u2, .slice a2 u3.length c2], .int .i64 u4] ∧ wq.ownsRow w6.heap.size 69 7 (.slice a2 u3.length c2) u3.length (eCells u3) := hf 42 (by decide)
        clear o42
        obtain ⟨a56, c56, e56, o56⟩ : ∃ (a2 : Option Addr) (c2 : Nat), fq 56 = .agg #[.int .i64 u1, .int .i64 u2, .slice a2 u3.length c2] ∧ wq.ownsRow w6.heap.size 69 7 (.slice a2 u3.length c2) u3.length (eCells u3) := hf 56 (by decide)
        clear o56
        have e57 : fq 57 = .int .i64 u4 := hf 57 (by decide)
        obtain ⟨g14, a14, c14, e14, l14, b14, o14⟩ : ∃ (g : Nat) (a2 : Option Addr) (c2 : Nat), fq 14 = .pointer (some ⟨g, 0, none⟩) ∧ w6.heap.size ≤ g ∧ Box wq g 30 (Value.cells (.agg #[.int .i64 u1, .int .i64 u2, .slice a2 u3.length c2])).toList ∧ wq.ownsRow w6.heap.size 69 7 (.slice a2 u3.length c2) u3.length (eCells u3) := by
          obtain ⟨g, u, h1, h2, h3, a2, c2, rfl, h4⟩ := hf 14 (by decide)
          exact ⟨g, a2, c2, h1, h2, h3, h4⟩
        simp only [List.drop_succ_cons, List.drop_zero, putL, Act.put, List.setIfInBounds_toArray, List.set_cons_succ, List.set_cons_zero, e43, e44, e45, e46, e47, e48, e49, e50, e51, e52, e53, e54, e55, e42, e56, e57, e14]
        clear hf e43 e44 e45 e46 e47 e48 e49 e50 e51 e52 e53 e54 e55 e42 e56 e57 e14
        have BT7 := Lib.hid (BT6.out.keep hbq)
        have RO7 := Lib.hid (row_below RO6.out hbq)
        have G7 := Lib.hid (Below.step G6.out hbq (by omega))
        have zz7 := hbq.size
        have RN7 := Lib.hid (row_wider (B' := w.heap.size + 1) o14 (by omega))
        have hne := row_ne RN7.out BT7.out (by decide)
        have hne2 := row_ne RO7.out BT7.out (by decide)
        obtain ⟨t_0, t_1, t_2, t_f⟩ := BT7.out.three
        obtain ⟨n_0, n_1, n_2, n_f⟩ := b14.three
        obtain ⟨w8, hw8⟩ : ∃ W, W = ((wq.setCell ⟨w.heap.size + 3, 0, none⟩ (.int .i64 u1)).setCell ⟨w.heap.size + 3, 1, none⟩ (.int .i64 u2)).setCell ⟨w.heap.size + 3, 2, none⟩ (.slice a14 u3.length c14) := ⟨_, rfl⟩
        have HW8 := Lib.hid hw8
        have zz8 : wq.heap.size ≤ w8.heap.size := by rw [hw8]; simp
        have BT8 : Hid (Box w8 (w.heap.size + 3) 30 [.int .i64 u1, .int .i64 u2, .slice a14 u3.length c14]) := Lib.hid (by rw [hw8]; exact ((BT7.out.set 0 _).set 1 _).set 2 _)
        have RN8 : Hid (w8.ownsRow (w.heap.size + 1) 69 7 (.slice a14 u3.length c14) u3.length (eCells u3)) := Lib.hid (by rw [hw8]; exact row_set (row_set (row_set RN7.out _ _ hne) _ _ hne) _ _ hne)
        have RO8 : Hid (w8.ownsRow (w.heap.size + 1) 3 1 (.slice b xs.length d) xs.length (xs.map (Value.int .i64))) := Lib.hid (by rw [hw8]; exact row_set (row_set (row_set RO7.out _ _ hne2) _ _ hne2) _ _ hne2)
        have G8 : Hid (Below (w.heap.size + 1) w4 w8) := Lib.hid (by rw [hw8]; exact ((G7.out.setCell (by show _ ≤ w.heap.size + 3; omega) _).setCell (by show _ ≤ w.heap.size + 3; omega) _).setCell (by show _ ≤ w.heap.size + 3; omega) _)
        clear hw8 hbq o14 hne hne2 BT7 RO7 G7 RN7 BT6 RO6 RE6 G6 DR6 ZR6
        go_upto_region 10 with fail
        rw [← HW8.out]
        clear t_0 t_1 t_2 t_f n_0 n_1 n_2 n_f b14
        go_wp2_with (at_builtin; refine wpl_app _ rfl elemI (.tmp 59) (.tmp 61) rfl (w.heap.size + 1) _ _ _ rfl (RO8.out.alloc _) _ 1 1 [.int .i64 u4] rfl rfl (news_of (Box.new2 _ 3 [_] _ rfl)) (one1 rfl) (by decide) ?c1 ?c2 (xs.length + 1) rfl _ rfl ?c4)
        case c1 => omega
        case c2 => first | omega | (simp; omega)
        case c4 =>
          intro b' cap' w9 hown hgrow hat hlt5
          have hgr := grownBy_tr (grownBy_alloc w8 _ (.cells #[.int .i64 u4] 3)) hgrow
          have hz9 : w8.heap.size + 1 ≤ w9.heap.size := by have := hgrow.size; simpa using this
          have G9 := Lib.hid (G8.out.grown hgr (by omega) (fun g hg => (RO8.out.lt g hg).1))
          have BT9 := Lib.hid (BT8.out.kept hgr (row_ne RO8.out BT8.out (by decide)))
          have RN9 := Lib.hid (row_kept RN8.out hgr (fun q hq hq' => rows_ne RN8.out RO8.out (by decide) q hq hq'))
          have RO9 : Hid (w9.ownsRow (w.heap.size + 1) 3 1 (.slice (some ⟨b', 0, none⟩) (xs.length + 1) cap') (xs.length + 1) ((xs ++ [u4]).map (Value.int .i64))) := Lib.hid (by rw [List.map_append]; exact hown)
          clear hown hgrow hat hgr G8 BT8 RN8 RO8
          go_wp2
          go_roundw
          case rel =>
            refine ⟨k + 1, u1, u2, u3, xs ++ [u4], a14, c14, some ⟨b', 0, none⟩, cap', by rw [HM.out]; omega, by go_num, HKN.out, by rw [List.length_append]; rfl, BT9.out, RN9.out, ?_, G9.out⟩
            rw [List.length_append]
            exact RO9.out
          case measure => simp [intOf]; omega
    · obtain rfl : k = n := by omega
      have hfin : runT hs sz st vs = (xs, (d1, d2, d3), true) := by
        have h1 := HST.out
        rw [← HM.out, List.take_length] at h1
        rw [HQ2.out, h1]
      have HR := Lib.hid hfin
      clear hfin HQ2
      obtain ⟨t_0, t_1, t_2, t_f⟩ := BT6.out.three
      obtain ⟨z_0, z_1, z_2, z_f⟩ := ZR6.out.three
      have hne := row_ne RE6.out ZR6.out (by decide)
      have hne2 := row_ne RO6.out ZR6.out (by decide)
      have hx1 : ¬ w.heap.size + 3 = w.heap.size := by omega
      have hx2 : ¬ w.heap.size = w.heap.size + 3 := by omega
      have hlz := ZR6.out.lt
      have hlb := BT6.out.lt
      go_wp2_with fail
      go_region
      go_wp2
      refine bodyPost_ret (v := .tuple #[.slice b xs.length d, .agg #[.int .i64 d1, .int .i64 d2, .slice ta d3.length tc], .bool true]) (by simp [results, Try.results16, go_sem, z_0, z_1, z_2]) rfl ?_
      exact retRun HR.out (row_wider (row_drewN (row_set (row_set (row_set RO6.out _ _ hne2) _ _ hne2) _ _ hne2) 1) (by omega)) (row_wider (row_drewN (row_set (row_set (row_set RE6.out _ _ hne) _ _ hne) _ _ hne) 1) (by omega)) (((DR6.out.setCell (Nat.le_refl _) _).setCell (Nat.le_refl _) _).setCell (Nat.le_refl _) _).drew
end Go.Proofs.Ytdkdfehlmphikaa
