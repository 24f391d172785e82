/- The walk of the exact law of ReceiveAll: true for all arguments. No condition. The text is written by a program (wip/ex_rcva.py). -/
import Derived.Test.YtalalapjanckdaaRcvB
namespace Go.Proofs.Ytalalapjanckdaa
open Go.RowKit
theorem s_RA_v {N R : Int} {xs l : List Int} {v1 v2 : Int} {v3 v4 : List Int} (hv : rcvA N R xs l = (v1, v2, v3, v4)) (a : Option Addr) (n cap : Nat) (b : Option Addr) (m cap' : Nat) (w : World) (hxs : xs.length = n) (hn : n ≤ 1048576) (h : Ints w a xs) (ha : a = none → n = 0 ∧ cap = 0) (hl : l.length = m) (hj : Ints w b l) (hm : m ≤ 1048576) :
    Calls Try.prog 44 #[.agg #[.int .i64 N, .int .i64 R, .slice a n cap], .slice b m cap'] w fun e w' => ∃ (a : Option Addr) (c : Nat) (b : Option Addr) (d : Nat), e = .returned (.tuple #[.agg #[.int .i64 v1, .int .i64 v2, .slice a v3.length c], .slice b v4.length d]) ∧ Ints w' a v3 ∧ Ints w' b v4 ∧ Below w.heap.size w w' :=
  (s_ReceiveAll N R a n cap xs b m cap' l w hxs hn h ha hl hj hm).mono fun e w' h => by rw [hv] at h; exact h
theorem c_RA_v {N R : Int} {xs l : List Int} {v1 v2 : Int} {v3 v4 : List Int} (hv : rcvA N R xs l = (v1, v2, v3, v4)) (a : Option Addr) (n cap : Nat) (b : Option Addr) (m cap' : Nat) (w : World) (hxs : xs.length = n) (hn : n ≤ 1048576) (h : Ints w a xs) (ha : a = none → n = 0 ∧ cap = 0) (hl : l.length = m) (hj : Ints w b l) (hm : m ≤ 1048576) :
    Calls Try.prog 43 #[.agg #[.int .i64 N, .int .i64 R, .slice a n cap], .slice b m cap'] w fun e w' => ∃ (a : Option Addr) (c : Nat) (b : Option Addr) (d : Nat), e = .returned (.tuple #[.agg #[.int .i64 v1, .int .i64 v2, .slice a v3.length c], .slice b v4.length d]) ∧ w'.ownsRow w.heap.size 3 1 (.slice a v3.length c) v3.length (v3.map (Value.int .i64)) ∧ w'.ownsRow w.heap.size 3 1 (.slice b v4.length d) v4.length (v4.map (Value.int .i64)) ∧ (∀ k, (Value.slice a v3.length c).ownBlock = some k → (Value.slice b v4.length d).ownBlock ≠ some k) ∧ Below w.heap.size w w' :=
  (c_ReceiveAll N R a n cap xs b m cap' l w hxs hn h ha hl hm hj).mono fun e w' h => by rw [hv] at h; exact h
set_option maxHeartbeats 4000000 in
set_option maxRecDepth 100000 in
theorem walkExactReceiveAll (N R : Int) (a : Option Addr) (n cap : Nat) (z : List Int) (b : Option Addr) (m cap' : Nat) (z' : List Int) (w : World) (_ : (Lit.int .i64 N).wf = true) (_ : (Lit.int .i64 R).wf = true) (w0 : IsRow .i64 w a n cap z) (w1 : IsRow .i64 w b m cap' z') :
    Calls Try.prog 10 #[.agg #[.int .i64 N, .int .i64 R, .slice a n cap], .slice b m cap'] w fun e w' => e = .returned (.bool true) ∧ Below w.heap.size w w' := by
  by_cases hbm : (1048576 : Int) < m
  · go_enter Try.func10, Try.ntmps10
    go_wp2
    go_ret
    exact ⟨rfl, by go_grown⟩
  have hm : m ≤ 1048576 := by omega
  by_cases hbig : (1048576 : Int) < n
  · have hmx : n ≤ maxLen := by
      rcases w0 with ⟨-, rfl, -⟩ | ⟨_, -, h1, h2, -⟩
      · exact Nat.zero_le _
      · omega
    go_enter Try.func10, Try.ntmps10
    go_wp2_with fail
    refine (c_szReceiver_no N R a n cap 1048576 _ hmx (by omega) (by omega) hbig).mono ?_; rintro e w1 ⟨rfl, b1⟩
    go_wp2_with fail
    go_ret
    exact ⟨rfl, ((Below.refl _ _).alloc (Nat.le_refl _) _).trans (b1.mono (by simp))⟩
  have hn : n ≤ 1048576 := by omega
  have hn0 : (n : Int) ≤ 1048576 := by omega
  obtain ⟨hI, hL⟩ := w0.ints
  obtain ⟨hJ, hM⟩ := w1.ints
  generalize z.take n = xs at hI hL
  generalize z'.take m = l at hJ hM
  have HL := Lib.hid hL
  have HM := Lib.hid hM
  clear w0 w1 hbig hL hM
  obtain ⟨⟨v1, v2, v3, v4⟩, hv⟩ : ∃ v, rcvA N R xs l = v := ⟨_, rfl⟩
  have hbd := rcvA_bd N R xs l
  rw [hv] at hbd
  obtain ⟨hb3, hb4⟩ := hbd
  simp only at hb3 hb4
  have HN3 : Hid (v3.length ≤ 1048576) := Lib.hid (by omega)
  have HN4 : Hid (v4.length ≤ 1048576) := Lib.hid (by omega)
  have HV := Lib.hid hv
  clear hv
  have D0 := Lib.hid (Below.refl w.heap.size w)
  go_enter Try.func10, Try.ntmps10
  have AW0 := Lib.hid (Below.refl w.heap.size w)
  have RI := Lib.hid hI
  have RL := Lib.hid hJ
  clear hI hJ
  obtain ⟨w1, hw1, hb1, hz1, hx1⟩ : ∃ W, W = w.alloc (.cells #[.int .i64 N, .int .i64 R, .slice a n cap] 60) ∧ Below w.heap.size w W ∧ W.heap.size = w.heap.size + 1 ∧ Box W w.heap.size 60 [.int .i64 N, .int .i64 R, .slice a n cap] := head1 w 60 _
  have HW1 := Lib.hid hw1
  have z1 : w.heap.size + 1 ≤ w1.heap.size := by omega
  have D1 := Lib.hid (Below.step D0.out hb1 (by omega))
  have AW1 := Lib.hid (Below.step AW0.out hb1 (by omega))
  have BP1 := Lib.hid hx1
  clear hw1 hb1 hz1 hx1
  go_wp2_with fail
  rw [← HW1.out]
  refine (c_szReceiver N R a n cap 1048576 _ (by omega) hn0).mono ?_; rintro e w2 ⟨rfl, g2⟩
  have z2 := g2.size
  have D2 := Lib.hid (Below.step D1.out g2 (by omega))
  have AW2 := Lib.hid (Below.step AW1.out g2 (by omega))
  have BP2 := Lib.hid (BP1.out.keep g2)
  clear g2
  clear AW0
  clear AW1 BP1
  have hsz : ¬ (1048576 - (n : Int) < 0) := by omega
  obtain ⟨xP0, xP1, xP2, xPf⟩ := BP2.out.three
  go_wp2_with fail
  refine (c_toReceiver N R a n cap xs _ HL.out hn (RI.out.below AW2.out)).mono ?_; rintro e w3 ⟨a3, c3, rfl, o3, g3⟩
  clear xP0 xP1 xP2 xPf
  have z3 := (grown_below g3).size
  have D3 := Lib.hid (Below.step D2.out (grown_below g3) (by omega))
  have AW3 := Lib.hid (Below.step AW2.out (grown_below g3) (by omega))
  have BP3 := Lib.hid (BP2.out.keep (grown_below g3))
  have OA3 := Lib.hid o3
  have LA := Lib.hid (fun k hk => o3.lt k hk)
  clear g3 o3
  clear AW2 BP2
  go_wp2_with fail
  refine (r_toIntS b m cap' l _ HM.out hm (RL.out.below AW3.out)).mono ?_; rintro e w4 ⟨a4, c4, rfl, o4, g4⟩
  have z4 := (grown_below g4).size
  have D4 := Lib.hid (Below.step D3.out (grown_below g4) (by omega))
  have AW4 := Lib.hid (Below.step AW3.out (grown_below g4) (by omega))
  have BP4 := Lib.hid (BP3.out.keep (grown_below g4))
  have OA4 := Lib.hid (row_below OA3.out (grown_below g4))
  have OB4 := Lib.hid o4
  have LB := Lib.hid (fun k hk => o4.lt k hk)
  clear g4 o4
  clear AW3 BP3 OA3
  go_wp2_with fail
  refine (s_RA_v HV.out a3 n c3 a4 m c4 _ HL.out hn (own_ints OA4.out).1 (own_none OA4.out) HM.out (own_ints OB4.out).1 hm).mono ?_; rintro e w5 ⟨a5, c5, a5', c5', rfl, o5, o5', g5⟩
  have z5 := g5.size
  have D5 := Lib.hid (Below.step D4.out g5 (by omega))
  have AW5 := Lib.hid (Below.step AW4.out g5 (by omega))
  have BP5 := Lib.hid (BP4.out.keep g5)
  have OA5 := Lib.hid (row_below OA4.out g5)
  have OB5 := Lib.hid (row_below OB4.out g5)
  clear g5
  clear AW4 BP4 OA4 OB4
  have AY5 := Lib.hid (Below.refl w5.heap.size w5)
  have RY := Lib.hid o5
  clear o5
  have RZ := Lib.hid o5'
  clear o5'
  clear OA5
  clear OB5
  obtain ⟨w6, hw6, hb6, hz6, hx6⟩ : ∃ W, W = w5.alloc (.cells #[.int .i64 v1, .int .i64 v2, .slice a5 v3.length c5] 52) ∧ Below w5.heap.size w5 W ∧ W.heap.size = w5.heap.size + 1 ∧ Box W w5.heap.size 52 [.int .i64 v1, .int .i64 v2, .slice a5 v3.length c5] := head1 w5 52 _
  have HW6 := Lib.hid hw6
  have z6 : w5.heap.size + 1 ≤ w6.heap.size := by omega
  have D6 := Lib.hid (Below.step D5.out hb6 (by omega))
  have AW6 := Lib.hid (Below.step AW5.out hb6 (by omega))
  have AY6 := Lib.hid (Below.step AY5.out hb6 (by omega))
  have BP6 := Lib.hid (BP5.out.keep hb6)
  have BY6 := Lib.hid hx6
  clear hw6 hb6 hz6 hx6
  obtain ⟨xP0, xP1, xP2, xPf⟩ := BP5.out.three
  have xPl : w.heap.size < w5.heap.size := by omega
  go_wp2_with fail
  rw [← HW6.out]
  refine (c_toReceiver N R a n cap xs _ HL.out hn (RI.out.below AW6.out)).mono ?_; rintro e w7 ⟨a7, c7, rfl, o7, g7⟩
  clear xP0 xP1 xP2 xPf xPl
  have z7 := (grown_below g7).size
  have D7 := Lib.hid (Below.step D6.out (grown_below g7) (by omega))
  have AW7 := Lib.hid (Below.step AW6.out (grown_below g7) (by omega))
  have AY7 := Lib.hid (Below.step AY6.out (grown_below g7) (by omega))
  have BP7 := Lib.hid (BP6.out.keep (grown_below g7))
  have BY7 := Lib.hid (BY6.out.keep (grown_below g7))
  have OX07 := Lib.hid o7
  have LX0 := Lib.hid (fun k hk => o7.lt k hk)
  clear g7 o7
  clear AW5 AY5 BP5
  clear AW6 AY6 BP6 BY6
  obtain ⟨w8, hw8, hb8, hz8, hx8⟩ : ∃ W, W = w7.alloc (.cells #[.int .i64 N, .int .i64 R, .slice a7 n c7] 52) ∧ Below w7.heap.size w7 W ∧ W.heap.size = w7.heap.size + 1 ∧ Box W w7.heap.size 52 [.int .i64 N, .int .i64 R, .slice a7 n c7] := head1 w7 52 _
  have HW8 := Lib.hid hw8
  have z8 : w7.heap.size + 1 ≤ w8.heap.size := by omega
  have D8 := Lib.hid (Below.step D7.out hb8 (by omega))
  have AW8 := Lib.hid (Below.step AW7.out hb8 (by omega))
  have AY8 := Lib.hid (Below.step AY7.out hb8 (by omega))
  have BP8 := Lib.hid (BP7.out.keep hb8)
  have BY8 := Lib.hid (BY7.out.keep hb8)
  have OX08 := Lib.hid (row_below OX07.out hb8)
  have BX08 := Lib.hid hx8
  clear hw8 hb8 hz8 hx8
  go_wp2_with fail
  rw [← HW8.out]
  refine (r_toIntS b m cap' l _ HM.out hm (RL.out.below AW8.out)).mono ?_; rintro e w9 ⟨a9, c9, rfl, o9, g9⟩
  have z9 := (grown_below g9).size
  have D9 := Lib.hid (Below.step D8.out (grown_below g9) (by omega))
  have AW9 := Lib.hid (Below.step AW8.out (grown_below g9) (by omega))
  have AY9 := Lib.hid (Below.step AY8.out (grown_below g9) (by omega))
  have BP9 := Lib.hid (BP8.out.keep (grown_below g9))
  have BY9 := Lib.hid (BY8.out.keep (grown_below g9))
  have BX09 := Lib.hid (BX08.out.keep (grown_below g9))
  have OX09 := Lib.hid (row_below OX08.out (grown_below g9))
  have OX19 := Lib.hid o9
  have LX1 := Lib.hid (fun k hk => o9.lt k hk)
  clear g9 o9
  clear AW7 AY7 BP7 BY7 OX07
  clear AW8 AY8 BP8 BY8 BX08 OX08
  obtain ⟨xX00, xX01, xX02, xX0f⟩ := BX09.out.three
  go_wp2_with fail
  refine (c_RA_v HV.out a7 n c7 a9 m c9 _ HL.out hn (own_ints OX09.out).1 (own_none OX09.out) HM.out (own_ints OX19.out).1 hm).mono ?_; rintro e w10 ⟨a10, c10, a10', c10', rfl, o10, o10', s10, g10⟩
  clear xX00 xX01 xX02 xX0f
  have z10 := g10.size
  have D10 := Lib.hid (Below.step D9.out g10 (by omega))
  have AW10 := Lib.hid (Below.step AW9.out g10 (by omega))
  have AY10 := Lib.hid (Below.step AY9.out g10 (by omega))
  have BP10 := Lib.hid (BP9.out.keep g10)
  have BY10 := Lib.hid (BY9.out.keep g10)
  have BX010 := Lib.hid (BX09.out.keep g10)
  have OX010 := Lib.hid (row_below OX09.out g10)
  have OX110 := Lib.hid (row_below OX19.out g10)
  have OG10 := Lib.hid o10
  have LG := Lib.hid (fun k hk => o10.lt k hk)
  have OH10 := Lib.hid o10'
  have LH := Lib.hid (fun k hk => o10'.lt k hk)
  have SGH := Lib.hid s10
  clear g10 o10 o10' s10
  clear AW9 AY9 BP9 BY9 BX09 OX09 OX19
  obtain ⟨w11, hw11, hb11, hz11, hx11⟩ : ∃ W, W = w10.alloc (.cells #[.int .i64 v1, .int .i64 v2, .slice a10 v3.length c10] 52) ∧ Below w10.heap.size w10 W ∧ W.heap.size = w10.heap.size + 1 ∧ Box W w10.heap.size 52 [.int .i64 v1, .int .i64 v2, .slice a10 v3.length c10] := head1 w10 52 _
  have HW11 := Lib.hid hw11
  have z11 : w10.heap.size + 1 ≤ w11.heap.size := by omega
  have D11 := Lib.hid (Below.step D10.out hb11 (by omega))
  have AW11 := Lib.hid (Below.step AW10.out hb11 (by omega))
  have AY11 := Lib.hid (Below.step AY10.out hb11 (by omega))
  have BP11 := Lib.hid (BP10.out.keep hb11)
  have BY11 := Lib.hid (BY10.out.keep hb11)
  have BX011 := Lib.hid (BX010.out.keep hb11)
  have OX011 := Lib.hid (row_below OX010.out hb11)
  have OX111 := Lib.hid (row_below OX110.out hb11)
  have OG11 := Lib.hid (row_below OG10.out hb11)
  have OH11 := Lib.hid (row_below OH10.out hb11)
  have BG11 := Lib.hid hx11
  clear hw11 hb11 hz11 hx11
  obtain ⟨xY0, xY1, xY2, xYf⟩ := BY10.out.three
  have xYl : w5.heap.size < w10.heap.size := by omega
  go_wp2_with fail
  rw [← HW11.out]
  refine (c_eqReceiver v1 v2 _ _ v3.length _ _ v3 _ rfl HN3.out (own_ints OG11.out).1 (RY.out.below AY11.out)).mono ?_; rintro e w12 ⟨rfl, g12⟩
  clear xY0 xY1 xY2 xYf xYl
  have z12 := g12.size
  have D12 := Lib.hid (Below.step D11.out g12 (by omega))
  have AW12 := Lib.hid (Below.step AW11.out g12 (by omega))
  have AY12 := Lib.hid (Below.step AY11.out g12 (by omega))
  have BP12 := Lib.hid (BP11.out.keep g12)
  have BY12 := Lib.hid (BY11.out.keep g12)
  have BX012 := Lib.hid (BX011.out.keep g12)
  have BG12 := Lib.hid (BG11.out.keep g12)
  have OX012 := Lib.hid (row_below OX011.out g12)
  have OX112 := Lib.hid (row_below OX111.out g12)
  have OG12 := Lib.hid (row_below OG11.out g12)
  have OH12 := Lib.hid (row_below OH11.out g12)
  clear g12
  clear AW10 AY10 BP10 BY10 BX010 OX010 OX110 OG10 OH10
  clear AW11 AY11 BP11 BY11 BX011 BG11 OX011 OX111 OG11 OH11
  go_wp2_with fail
  refine (c_eqIntS _ _ v4.length _ _ v4 _ rfl HN4.out (own_ints OH12.out).1 (RZ.out.below AY12.out)).mono ?_; rintro e w13 ⟨rfl, g13⟩
  have z13 := g13.size
  have D13 := Lib.hid (Below.step D12.out g13 (by omega))
  have AW13 := Lib.hid (Below.step AW12.out g13 (by omega))
  have AY13 := Lib.hid (Below.step AY12.out g13 (by omega))
  have BP13 := Lib.hid (BP12.out.keep g13)
  have BY13 := Lib.hid (BY12.out.keep g13)
  have BX013 := Lib.hid (BX012.out.keep g13)
  have BG13 := Lib.hid (BG12.out.keep g13)
  have OX013 := Lib.hid (row_below OX012.out g13)
  have OX113 := Lib.hid (row_below OX112.out g13)
  have OG13 := Lib.hid (row_below OG12.out g13)
  have OH13 := Lib.hid (row_below OH12.out g13)
  clear g13
  clear AW12 AY12 BP12 BY12 BX012 BG12 OX012 OX112 OG12 OH12
  obtain ⟨xP0, xP1, xP2, xPf⟩ := BP13.out.three
  obtain ⟨xX00, xX01, xX02, xX0f⟩ := BX013.out.three
  go_upto_region 13 with fail
  go_cut [57] (fun s wx => s = .bool false ∧ Below w13.heap.size w13 wx)
  case first =>
    have hlt : w.heap.size < w13.heap.size ∧ w7.heap.size < w13.heap.size := ⟨by omega, by omega⟩
    have RJ := Lib.hid (RI.out.below AW13.out)
    have RK := Lib.hid (own_ints OX013.out).1
    have hD0 : Below w13.heap.size w13 w13.drew := below_drew (Below.refl _ _)
    go_region_held3 (fun w' => w'.cell? ⟨w.heap.size, 0, none⟩ = some (.int .i64 N) ∧ w'.cell? ⟨w.heap.size, 1, none⟩ = some (.int .i64 R) ∧ w'.cell? ⟨w.heap.size, 2, none⟩ = some (.slice a n cap) ∧ w'.cell? ⟨w7.heap.size, 0, none⟩ = some (.int .i64 N) ∧ w'.cell? ⟨w7.heap.size, 1, none⟩ = some (.int .i64 R) ∧ w'.cell? ⟨w7.heap.size, 2, none⟩ = some (.slice a7 n c7) ∧ Below w13.heap.size w13 w') (first | (with_reducible exact ⟨keepD0 xP0, keepD0 xP1, keepD0 xP2, keepD0 xX00, keepD0 xX01, keepD0 xX02, hD0⟩) | (with_reducible exact ⟨kk0, kk1, kk2, kk3, kk4, kk5, kkB⟩) | (trace "KEEP"; trace_state; fail))
      (first
        | (go_at_call 35; refine (c_toReceiver N R a n cap xs _ HL.out hn (RJ.out.below (by assumption))).mono ?_; rintro e w' ⟨a', c', rfl, o', g'⟩
           have kk0 : w'.cell? ⟨w.heap.size, 0, none⟩ = some (.int .i64 N) := ((grown_below g').cell (p := ⟨w.heap.size, 0, none⟩) (World.block_lt_of_cell? _ _ (by assumption))).trans (by assumption)
           have kk1 : w'.cell? ⟨w.heap.size, 1, none⟩ = some (.int .i64 R) := ((grown_below g').cell (p := ⟨w.heap.size, 1, none⟩) (World.block_lt_of_cell? _ _ (by assumption))).trans (by assumption)
           have kk2 : w'.cell? ⟨w.heap.size, 2, none⟩ = some (.slice a n cap) := ((grown_below g').cell (p := ⟨w.heap.size, 2, none⟩) (World.block_lt_of_cell? _ _ (by assumption))).trans (by assumption)
           have kk3 : w'.cell? ⟨w7.heap.size, 0, none⟩ = some (.int .i64 N) := ((grown_below g').cell (p := ⟨w7.heap.size, 0, none⟩) (World.block_lt_of_cell? _ _ (by assumption))).trans (by assumption)
           have kk4 : w'.cell? ⟨w7.heap.size, 1, none⟩ = some (.int .i64 R) := ((grown_below g').cell (p := ⟨w7.heap.size, 1, none⟩) (World.block_lt_of_cell? _ _ (by assumption))).trans (by assumption)
           have kk5 : w'.cell? ⟨w7.heap.size, 2, none⟩ = some (.slice a7 n c7) := ((grown_below g').cell (p := ⟨w7.heap.size, 2, none⟩) (World.block_lt_of_cell? _ _ (by assumption))).trans (by assumption)
           have kkB : Below w13.heap.size w13 w' := Below.step (by assumption) (grown_below g') (by have := Below.size (by assumption : Below w13.heap.size w13 _); omega)
           have OT := Lib.hid o'
           clear g' o')
        | (go_at_call 36; refine (c_eqReceiver N R _ _ n _ _ xs _ HL.out hn (RK.out.below (by assumption)) (own_ints OT.out).1).mono ?_; rintro e w' ⟨rfl, hb⟩
           have kk0 : w'.cell? ⟨w.heap.size, 0, none⟩ = some (.int .i64 N) := (hb.cell (p := ⟨w.heap.size, 0, none⟩) (World.block_lt_of_cell? _ _ (by assumption))).trans (by assumption)
           have kk1 : w'.cell? ⟨w.heap.size, 1, none⟩ = some (.int .i64 R) := (hb.cell (p := ⟨w.heap.size, 1, none⟩) (World.block_lt_of_cell? _ _ (by assumption))).trans (by assumption)
           have kk2 : w'.cell? ⟨w.heap.size, 2, none⟩ = some (.slice a n cap) := (hb.cell (p := ⟨w.heap.size, 2, none⟩) (World.block_lt_of_cell? _ _ (by assumption))).trans (by assumption)
           have kk3 : w'.cell? ⟨w7.heap.size, 0, none⟩ = some (.int .i64 N) := (hb.cell (p := ⟨w7.heap.size, 0, none⟩) (World.block_lt_of_cell? _ _ (by assumption))).trans (by assumption)
           have kk4 : w'.cell? ⟨w7.heap.size, 1, none⟩ = some (.int .i64 R) := (hb.cell (p := ⟨w7.heap.size, 1, none⟩) (World.block_lt_of_cell? _ _ (by assumption))).trans (by assumption)
           have kk5 : w'.cell? ⟨w7.heap.size, 2, none⟩ = some (.slice a7 n c7) := (hb.cell (p := ⟨w7.heap.size, 2, none⟩) (World.block_lt_of_cell? _ _ (by assumption))).trans (by assumption)
           have kkB : Below w13.heap.size w13 w' := Below.step (by assumption) hb (by have := Below.size (by assumption : Below w13.heap.size w13 _); omega)
           clear hb))
    go_wp2_with fail
    go_meet
    exact ⟨rfl, by assumption⟩
  case rest =>
    obtain ⟨rfl, g14⟩ := hcut
    obtain ⟨w14, rfl⟩ : ∃ wo : World, wo = wc := ⟨_, rfl⟩
    have z14 := g14.size
    have D14 := Lib.hid (Below.step D13.out g14 (by omega))
    have AW14 := Lib.hid (Below.step AW13.out g14 (by omega))
    have AY14 := Lib.hid (Below.step AY13.out g14 (by omega))
    have BP14 := Lib.hid (BP13.out.keep g14)
    have BY14 := Lib.hid (BY13.out.keep g14)
    have BX014 := Lib.hid (BX013.out.keep g14)
    have BG14 := Lib.hid (BG13.out.keep g14)
    have OX014 := Lib.hid (row_below OX013.out g14)
    have OX114 := Lib.hid (row_below OX113.out g14)
    have OG14 := Lib.hid (row_below OG13.out g14)
    have OH14 := Lib.hid (row_below OH13.out g14)
    clear g14
    clear xP0 xP1 xP2 xPf xX00 xX01 xX02 xX0f
    clear AW13 AY13 BP13 BY13 BX013 BG13 OX013 OX113 OG13 OH13
    go_wp2_with fail
    refine (r_toIntS b m cap' l _ HM.out hm (RL.out.below AW14.out)).mono ?_; rintro e w15 ⟨a15, c15, rfl, o15, g15⟩
    have z15 := (grown_below g15).size
    have D15 := Lib.hid (Below.step D14.out (grown_below g15) (by omega))
    have AW15 := Lib.hid (Below.step AW14.out (grown_below g15) (by omega))
    have AY15 := Lib.hid (Below.step AY14.out (grown_below g15) (by omega))
    have BP15 := Lib.hid (BP14.out.keep (grown_below g15))
    have BY15 := Lib.hid (BY14.out.keep (grown_below g15))
    have BX015 := Lib.hid (BX014.out.keep (grown_below g15))
    have BG15 := Lib.hid (BG14.out.keep (grown_below g15))
    have OX015 := Lib.hid (row_below OX014.out (grown_below g15))
    have OX115 := Lib.hid (row_below OX114.out (grown_below g15))
    have OG15 := Lib.hid (row_below OG14.out (grown_below g15))
    have OH15 := Lib.hid (row_below OH14.out (grown_below g15))
    have OB15 := Lib.hid o15
    have LB := Lib.hid (fun k hk => o15.lt k hk)
    clear g15 o15
    clear AW14 AY14 BP14 BY14 BX014 BG14 OX014 OX114 OG14 OH14
    go_wp2_with fail
    refine (c_eqIntS _ _ m _ _ l _ HM.out hm (own_ints OX115.out).1 (own_ints OB15.out).1).mono ?_; rintro e w16 ⟨rfl, g16⟩
    have z16 := g16.size
    have D16 := Lib.hid (Below.step D15.out g16 (by omega))
    have AW16 := Lib.hid (Below.step AW15.out g16 (by omega))
    have AY16 := Lib.hid (Below.step AY15.out g16 (by omega))
    have BP16 := Lib.hid (BP15.out.keep g16)
    have BY16 := Lib.hid (BY15.out.keep g16)
    have BX016 := Lib.hid (BX015.out.keep g16)
    have BG16 := Lib.hid (BG15.out.keep g16)
    have OX016 := Lib.hid (row_below OX015.out g16)
    have OX116 := Lib.hid (row_below OX115.out g16)
    have OG16 := Lib.hid (row_below OG15.out g16)
    have OH16 := Lib.hid (row_below OH15.out g16)
    have OB16 := Lib.hid (row_below OB15.out g16)
    clear g16
    clear AW15 AY15 BP15 BY15 BX015 BG15 OX015 OX115 OG15 OH15 OB15
    clear OB16
    obtain ⟨xX00, xX01, xX02, xX0f⟩ := BX016.out.three
    go_wp2_with fail
    refine (c_markReceiver _ N R _ n _ 1 xs _ hn (by omega) (by omega) OX016.out).mono ?_; rintro e w17 ⟨rfl, o17, g17⟩
    clear xX00 xX01 xX02 xX0f
    have z17 := g17.size
    have D17 := Lib.hid (D16.out.grown g17 (by omega) (fun k hk => by have := (LX0.out k hk).1; omega))
    have AW17 := Lib.hid (AW16.out.grown g17 (by omega) (fun k hk => by have := (LX0.out k hk).1; omega))
    have AY17 := Lib.hid (AY16.out.grown g17 (by omega) (fun k hk => by have := (LX0.out k hk).1; omega))
    have BP17 := Lib.hid (Box.kept BP16.out g17 (fun hk => by have := LX0.out _ hk; omega))
    have BY17 := Lib.hid (Box.kept BY16.out g17 (fun hk => by have := LX0.out _ hk; omega))
    have BX017 := Lib.hid (Box.kept BX016.out g17 (fun hk => by have := LX0.out _ hk; omega))
    have BG17 := Lib.hid (Box.kept BG16.out g17 (fun hk => by have := LX0.out _ hk; omega))
    have OX117 := Lib.hid (row_kept OX116.out g17 (fun k hk h => by have := LX1.out k hk; have := LX0.out k h; omega))
    have OG17 := Lib.hid (row_kept OG16.out g17 (fun k hk h => by have := LG.out k hk; have := LX0.out k h; omega))
    have OH17 := Lib.hid (row_kept OH16.out g17 (fun k hk h => by have := LH.out k hk; have := LX0.out k h; omega))
    have OX017 := Lib.hid o17
    clear o17 g17
    clear AW16 AY16 BP16 BY16 BX016 BG16 OX016 OX116 OG16 OH16
    go_wp2_with fail
    refine (r_markIntS _ m _ _ (1 + (n : Int)) l _ hm (by omega) (by omega) OX117.out).mono ?_; rintro e w18 ⟨rfl, o18, g18⟩
    have z18 := g18.size
    have D18 := Lib.hid (D17.out.grown g18 (by omega) (fun k hk => by have := (LX1.out k hk).1; omega))
    have AW18 := Lib.hid (AW17.out.grown g18 (by omega) (fun k hk => by have := (LX1.out k hk).1; omega))
    have AY18 := Lib.hid (AY17.out.grown g18 (by omega) (fun k hk => by have := (LX1.out k hk).1; omega))
    have BP18 := Lib.hid (Box.kept BP17.out g18 (fun hk => by have := LX1.out _ hk; omega))
    have BY18 := Lib.hid (Box.kept BY17.out g18 (fun hk => by have := LX1.out _ hk; omega))
    have BX018 := Lib.hid (Box.kept BX017.out g18 (fun hk => by have := LX1.out _ hk; omega))
    have BG18 := Lib.hid (Box.kept BG17.out g18 (fun hk => by have := LX1.out _ hk; omega))
    have OX018 := Lib.hid (row_kept OX017.out g18 (fun k hk h => by have := LX0.out k hk; have := LX1.out k h; omega))
    have OG18 := Lib.hid (row_kept OG17.out g18 (fun k hk h => by have := LG.out k hk; have := LX1.out k h; omega))
    have OH18 := Lib.hid (row_kept OH17.out g18 (fun k hk h => by have := LH.out k hk; have := LX1.out k h; omega))
    have OX118 := Lib.hid o18
    clear o18 g18
    clear AW17 AY17 BP17 BY17 BX017 BG17 OX017 OX117 OG17 OH17
    have hk1 : ¬ (1 + (n : Int) + (m : Int) < 0) := by omega
    obtain ⟨xG0, xG1, xG2, xGf⟩ := BG18.out.three
    obtain ⟨xY0, xY1, xY2, xYf⟩ := BY18.out.three
    go_wp2_with fail
    refine (c_eqReceiver v1 v2 _ _ v3.length _ _ v3 _ rfl HN3.out (own_ints OG18.out).1 (RY.out.below AY18.out)).mono ?_; rintro e w19 ⟨rfl, g19⟩
    clear xG0 xG1 xG2 xGf xY0 xY1 xY2 xYf
    have z19 := g19.size
    have D19 := Lib.hid (Below.step D18.out g19 (by omega))
    have AW19 := Lib.hid (Below.step AW18.out g19 (by omega))
    have AY19 := Lib.hid (Below.step AY18.out g19 (by omega))
    have BP19 := Lib.hid (BP18.out.keep g19)
    have BY19 := Lib.hid (BY18.out.keep g19)
    have BX019 := Lib.hid (BX018.out.keep g19)
    have BG19 := Lib.hid (BG18.out.keep g19)
    have OX019 := Lib.hid (row_below OX018.out g19)
    have OX119 := Lib.hid (row_below OX118.out g19)
    have OG19 := Lib.hid (row_below OG18.out g19)
    have OH19 := Lib.hid (row_below OH18.out g19)
    clear g19
    clear AW18 AY18 BP18 BY18 BX018 BG18 OX018 OX118 OG18 OH18
    go_wp2_with fail
    refine (c_eqIntS _ _ v4.length _ _ v4 _ rfl HN4.out (own_ints OH19.out).1 (RZ.out.below AY19.out)).mono ?_; rintro e w20 ⟨rfl, g20⟩
    have z20 := g20.size
    have D20 := Lib.hid (Below.step D19.out g20 (by omega))
    have AW20 := Lib.hid (Below.step AW19.out g20 (by omega))
    have AY20 := Lib.hid (Below.step AY19.out g20 (by omega))
    have BP20 := Lib.hid (BP19.out.keep g20)
    have BY20 := Lib.hid (BY19.out.keep g20)
    have BX020 := Lib.hid (BX019.out.keep g20)
    have BG20 := Lib.hid (BG19.out.keep g20)
    have OX020 := Lib.hid (row_below OX019.out g20)
    have OX120 := Lib.hid (row_below OX119.out g20)
    have OG20 := Lib.hid (row_below OG19.out g20)
    have OH20 := Lib.hid (row_below OH19.out g20)
    clear g20
    clear AW19 AY19 BP19 BY19 BX019 BG19 OX019 OX119 OG19 OH19
    obtain ⟨xG0, xG1, xG2, xGf⟩ := BG20.out.three
    go_wp2_with fail
    refine (c_markReceiver _ v1 v2 _ v3.length _ 1 v3 _ HN3.out (by omega) (by omega) OG20.out).mono ?_; rintro e w21 ⟨rfl, o21, g21⟩
    clear xG0 xG1 xG2 xGf
    have z21 := g21.size
    have D21 := Lib.hid (D20.out.grown g21 (by omega) (fun k hk => by have := (LG.out k hk).1; omega))
    have AW21 := Lib.hid (AW20.out.grown g21 (by omega) (fun k hk => by have := (LG.out k hk).1; omega))
    have AY21 := Lib.hid (AY20.out.grown g21 (by omega) (fun k hk => by have := (LG.out k hk).1; omega))
    have BP21 := Lib.hid (Box.kept BP20.out g21 (fun hk => by have := LG.out _ hk; omega))
    have BY21 := Lib.hid (Box.kept BY20.out g21 (fun hk => by have := LG.out _ hk; omega))
    have BX021 := Lib.hid (Box.kept BX020.out g21 (fun hk => by have := LG.out _ hk; omega))
    have BG21 := Lib.hid (Box.kept BG20.out g21 (fun hk => by have := LG.out _ hk; omega))
    have OX021 := Lib.hid (row_kept OX020.out g21 (fun k hk h => by have := LX0.out k hk; have := LG.out k h; omega))
    have OX121 := Lib.hid (row_kept OX120.out g21 (fun k hk h => by have := LX1.out k hk; have := LG.out k h; omega))
    have OH21 := Lib.hid (row_kept OH20.out g21 (fun k hk h => SGH.out k h hk))
    have OG21 := Lib.hid o21
    clear o21 g21
    clear AW20 AY20 BP20 BY20 BX020 BG20 OX020 OX120 OG20 OH20
    go_wp2_with fail
    refine (r_markIntS _ v4.length _ _ (1 + (v3.length : Int)) v4 _ HN4.out (by omega) (by omega) OH21.out).mono ?_; rintro e w22 ⟨rfl, o22, g22⟩
    have z22 := g22.size
    have D22 := Lib.hid (D21.out.grown g22 (by omega) (fun k hk => by have := (LH.out k hk).1; omega))
    have AW22 := Lib.hid (AW21.out.grown g22 (by omega) (fun k hk => by have := (LH.out k hk).1; omega))
    have AY22 := Lib.hid (AY21.out.grown g22 (by omega) (fun k hk => by have := (LH.out k hk).1; omega))
    have BP22 := Lib.hid (Box.kept BP21.out g22 (fun hk => by have := LH.out _ hk; omega))
    have BY22 := Lib.hid (Box.kept BY21.out g22 (fun hk => by have := LH.out _ hk; omega))
    have BX022 := Lib.hid (Box.kept BX021.out g22 (fun hk => by have := LH.out _ hk; omega))
    have BG22 := Lib.hid (Box.kept BG21.out g22 (fun hk => by have := LH.out _ hk; omega))
    have OX022 := Lib.hid (row_kept OX021.out g22 (fun k hk h => by have := LX0.out k hk; have := LH.out k h; omega))
    have OX122 := Lib.hid (row_kept OX121.out g22 (fun k hk h => by have := LX1.out k hk; have := LH.out k h; omega))
    have OG22 := Lib.hid (row_kept OG21.out g22 (fun k hk h => SGH.out k hk h))
    have OH22 := Lib.hid o22
    clear o22 g22
    clear AW21 AY21 BP21 BY21 BX021 BG21 OX021 OX121 OG21 OH21
    have hh1 : ¬ (1 + (v3.length : Int) < 0) := by omega
    have hh2 : ¬ (1 + (v3.length : Int) + (v4.length : Int) < 0) := by omega
    obtain ⟨xG0, xG1, xG2, xGf⟩ := BG22.out.three
    go_wp2_with fail
    refine (c_heldReceiver v1 v2 _ v3.length _ 1 _ HN3.out (by omega) (by omega) (own_ints OG22.out).1).mono ?_; rintro e w23 ⟨rfl, g23⟩
    clear xG0 xG1 xG2 xGf
    have z23 := g23.size
    have D23 := Lib.hid (Below.step D22.out g23 (by omega))
    have AW23 := Lib.hid (Below.step AW22.out g23 (by omega))
    have AY23 := Lib.hid (Below.step AY22.out g23 (by omega))
    have BP23 := Lib.hid (BP22.out.keep g23)
    have BY23 := Lib.hid (BY22.out.keep g23)
    have BX023 := Lib.hid (BX022.out.keep g23)
    have BG23 := Lib.hid (BG22.out.keep g23)
    have OX023 := Lib.hid (row_below OX022.out g23)
    have OX123 := Lib.hid (row_below OX122.out g23)
    have OG23 := Lib.hid (row_below OG22.out g23)
    have OH23 := Lib.hid (row_below OH22.out g23)
    clear g23
    clear AW22 AY22 BP22 BY22 BX022 BG22 OX022 OX122 OG22 OH22
    go_wp2_with fail
    refine (c_heldIntS _ v4.length _ (1 + (v3.length : Int)) _ HN4.out (by omega) (by omega) (own_ints OH23.out).1).mono ?_; rintro e w' ⟨rfl, rfl⟩
    obtain ⟨xP0, xP1, xP2, xPf⟩ := BP23.out.three
    go_wp2_with fail
    refine (c_toReceiver N R a n cap xs _ HL.out hn (RI.out.below AW23.out)).mono ?_; rintro e w24 ⟨a24, c24, rfl, o24, g24⟩
    clear xP0 xP1 xP2 xPf
    have z24 := (grown_below g24).size
    have D24 := Lib.hid (Below.step D23.out (grown_below g24) (by omega))
    have AW24 := Lib.hid (Below.step AW23.out (grown_below g24) (by omega))
    have AY24 := Lib.hid (Below.step AY23.out (grown_below g24) (by omega))
    have BP24 := Lib.hid (BP23.out.keep (grown_below g24))
    have BY24 := Lib.hid (BY23.out.keep (grown_below g24))
    have BX024 := Lib.hid (BX023.out.keep (grown_below g24))
    have BG24 := Lib.hid (BG23.out.keep (grown_below g24))
    have OX024 := Lib.hid (row_below OX023.out (grown_below g24))
    have OX124 := Lib.hid (row_below OX123.out (grown_below g24))
    have OG24 := Lib.hid (row_below OG23.out (grown_below g24))
    have OH24 := Lib.hid (row_below OH23.out (grown_below g24))
    have OA24 := Lib.hid o24
    have LA := Lib.hid (fun k hk => o24.lt k hk)
    clear g24 o24
    clear AW23 AY23 BP23 BY23 BX023 BG23 OX023 OX123 OG23 OH23
    go_wp2_with fail
    refine (r_toIntS b m cap' l _ HM.out hm (RL.out.below AW24.out)).mono ?_; rintro e w25 ⟨a25, c25, rfl, o25, g25⟩
    have z25 := (grown_below g25).size
    have D25 := Lib.hid (Below.step D24.out (grown_below g25) (by omega))
    have AW25 := Lib.hid (Below.step AW24.out (grown_below g25) (by omega))
    have AY25 := Lib.hid (Below.step AY24.out (grown_below g25) (by omega))
    have BP25 := Lib.hid (BP24.out.keep (grown_below g25))
    have BY25 := Lib.hid (BY24.out.keep (grown_below g25))
    have BX025 := Lib.hid (BX024.out.keep (grown_below g25))
    have BG25 := Lib.hid (BG24.out.keep (grown_below g25))
    have OX025 := Lib.hid (row_below OX024.out (grown_below g25))
    have OX125 := Lib.hid (row_below OX124.out (grown_below g25))
    have OG25 := Lib.hid (row_below OG24.out (grown_below g25))
    have OH25 := Lib.hid (row_below OH24.out (grown_below g25))
    have OA25 := Lib.hid (row_below OA24.out (grown_below g25))
    have OB25 := Lib.hid o25
    have LB := Lib.hid (fun k hk => o25.lt k hk)
    clear g25 o25
    clear AW24 AY24 BP24 BY24 BX024 BG24 OX024 OX124 OG24 OH24 OA24
    go_wp2_with fail
    refine (c_RA_v HV.out a24 n c24 a25 m c25 _ HL.out hn (own_ints OA25.out).1 (own_none OA25.out) HM.out (own_ints OB25.out).1 hm).mono ?_; rintro e w26 ⟨a26, c26, a26', c26', rfl, o26, o26', s26, g26⟩
    have z26 := g26.size
    have D26 := Lib.hid (Below.step D25.out g26 (by omega))
    have AW26 := Lib.hid (Below.step AW25.out g26 (by omega))
    have AY26 := Lib.hid (Below.step AY25.out g26 (by omega))
    have BP26 := Lib.hid (BP25.out.keep g26)
    have BY26 := Lib.hid (BY25.out.keep g26)
    have BX026 := Lib.hid (BX025.out.keep g26)
    have BG26 := Lib.hid (BG25.out.keep g26)
    have OX026 := Lib.hid (row_below OX025.out g26)
    have OX126 := Lib.hid (row_below OX125.out g26)
    have OG26 := Lib.hid (row_below OG25.out g26)
    have OH26 := Lib.hid (row_below OH25.out g26)
    have OA26 := Lib.hid (row_below OA25.out g26)
    have OB26 := Lib.hid (row_below OB25.out g26)
    have OU26 := Lib.hid o26
    have LU := Lib.hid (fun k hk => o26.lt k hk)
    have OV26 := Lib.hid o26'
    have LV := Lib.hid (fun k hk => o26'.lt k hk)
    have SUV := Lib.hid s26
    clear g26 o26 o26' s26
    clear AW25 AY25 BP25 BY25 BX025 BG25 OX025 OX125 OG25 OH25 OA25 OB25
    clear OA26
    clear OB26
    obtain ⟨w27, hw27, hb27, hz27, hx27⟩ : ∃ W, W = w26.alloc (.cells #[.int .i64 v1, .int .i64 v2, .slice a26 v3.length c26] 52) ∧ Below w26.heap.size w26 W ∧ W.heap.size = w26.heap.size + 1 ∧ Box W w26.heap.size 52 [.int .i64 v1, .int .i64 v2, .slice a26 v3.length c26] := head1 w26 52 _
    have HW27 := Lib.hid hw27
    have z27 : w26.heap.size + 1 ≤ w27.heap.size := by omega
    have D27 := Lib.hid (Below.step D26.out hb27 (by omega))
    have AW27 := Lib.hid (Below.step AW26.out hb27 (by omega))
    have AY27 := Lib.hid (Below.step AY26.out hb27 (by omega))
    have BP27 := Lib.hid (BP26.out.keep hb27)
    have BY27 := Lib.hid (BY26.out.keep hb27)
    have BX027 := Lib.hid (BX026.out.keep hb27)
    have BG27 := Lib.hid (BG26.out.keep hb27)
    have OX027 := Lib.hid (row_below OX026.out hb27)
    have OX127 := Lib.hid (row_below OX126.out hb27)
    have OG27 := Lib.hid (row_below OG26.out hb27)
    have OH27 := Lib.hid (row_below OH26.out hb27)
    have OU27 := Lib.hid (row_below OU26.out hb27)
    have OV27 := Lib.hid (row_below OV26.out hb27)
    have BU27 := Lib.hid hx27
    clear hw27 hb27 hz27 hx27
    obtain ⟨xY0, xY1, xY2, xYf⟩ := BY26.out.three
    have xYl : w5.heap.size < w26.heap.size := by omega
    go_wp2_with fail
    rw [← HW27.out]
    refine (c_eqReceiver v1 v2 _ _ v3.length _ _ v3 _ rfl HN3.out (own_ints OU27.out).1 (RY.out.below AY27.out)).mono ?_; rintro e w28 ⟨rfl, g28⟩
    clear xY0 xY1 xY2 xYf xYl
    have z28 := g28.size
    have D28 := Lib.hid (Below.step D27.out g28 (by omega))
    have AW28 := Lib.hid (Below.step AW27.out g28 (by omega))
    have AY28 := Lib.hid (Below.step AY27.out g28 (by omega))
    have BP28 := Lib.hid (BP27.out.keep g28)
    have BY28 := Lib.hid (BY27.out.keep g28)
    have BX028 := Lib.hid (BX027.out.keep g28)
    have BG28 := Lib.hid (BG27.out.keep g28)
    have BU28 := Lib.hid (BU27.out.keep g28)
    have OX028 := Lib.hid (row_below OX027.out g28)
    have OX128 := Lib.hid (row_below OX127.out g28)
    have OG28 := Lib.hid (row_below OG27.out g28)
    have OH28 := Lib.hid (row_below OH27.out g28)
    have OU28 := Lib.hid (row_below OU27.out g28)
    have OV28 := Lib.hid (row_below OV27.out g28)
    clear g28
    clear AW26 AY26 BP26 BY26 BX026 BG26 OX026 OX126 OG26 OH26 OU26 OV26
    clear AW27 AY27 BP27 BY27 BX027 BG27 BU27 OX027 OX127 OG27 OH27 OU27 OV27
    go_wp2_with fail
    refine (c_eqIntS _ _ v4.length _ _ v4 _ rfl HN4.out (own_ints OV28.out).1 (RZ.out.below AY28.out)).mono ?_; rintro e w29 ⟨rfl, g29⟩
    have z29 := g29.size
    have D29 := Lib.hid (Below.step D28.out g29 (by omega))
    have AW29 := Lib.hid (Below.step AW28.out g29 (by omega))
    have AY29 := Lib.hid (Below.step AY28.out g29 (by omega))
    have BP29 := Lib.hid (BP28.out.keep g29)
    have BY29 := Lib.hid (BY28.out.keep g29)
    have BX029 := Lib.hid (BX028.out.keep g29)
    have BG29 := Lib.hid (BG28.out.keep g29)
    have BU29 := Lib.hid (BU28.out.keep g29)
    have OX029 := Lib.hid (row_below OX028.out g29)
    have OX129 := Lib.hid (row_below OX128.out g29)
    have OG29 := Lib.hid (row_below OG28.out g29)
    have OH29 := Lib.hid (row_below OH28.out g29)
    have OU29 := Lib.hid (row_below OU28.out g29)
    have OV29 := Lib.hid (row_below OV28.out g29)
    clear g29
    clear AW28 AY28 BP28 BY28 BX028 BG28 BU28 OX028 OX128 OG28 OH28 OU28 OV28
    obtain ⟨xG0, xG1, xG2, xGf⟩ := BG29.out.three
    go_wp2_with fail
    refine (c_heldReceiver v1 v2 _ v3.length _ 1 _ HN3.out (by omega) (by omega) (own_ints OG29.out).1).mono ?_; rintro e w30 ⟨rfl, g30⟩
    clear xG0 xG1 xG2 xGf
    have z30 := g30.size
    have D30 := Lib.hid (Below.step D29.out g30 (by omega))
    have AW30 := Lib.hid (Below.step AW29.out g30 (by omega))
    have AY30 := Lib.hid (Below.step AY29.out g30 (by omega))
    have BP30 := Lib.hid (BP29.out.keep g30)
    have BY30 := Lib.hid (BY29.out.keep g30)
    have BX030 := Lib.hid (BX029.out.keep g30)
    have BG30 := Lib.hid (BG29.out.keep g30)
    have BU30 := Lib.hid (BU29.out.keep g30)
    have OX030 := Lib.hid (row_below OX029.out g30)
    have OX130 := Lib.hid (row_below OX129.out g30)
    have OG30 := Lib.hid (row_below OG29.out g30)
    have OH30 := Lib.hid (row_below OH29.out g30)
    have OU30 := Lib.hid (row_below OU29.out g30)
    have OV30 := Lib.hid (row_below OV29.out g30)
    clear g30
    clear AW29 AY29 BP29 BY29 BX029 BG29 BU29 OX029 OX129 OG29 OH29 OU29 OV29
    go_wp2_with fail
    refine (c_heldIntS _ v4.length _ (1 + (v3.length : Int)) _ HN4.out (by omega) (by omega) (own_ints OH30.out).1).mono ?_; rintro e w' ⟨rfl, rfl⟩
    go_wp2_with fail
    go_ret
    exact ⟨rfl, D30.out⟩
end Go.Proofs.Ytalalapjanckdaa
