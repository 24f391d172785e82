/- The walk of the exact law of RunEvents: true for all arguments. No condition. The text is written by a program (wip/ex_rev.py). -/
import Derived.Test.YtdkdfehlmphikaaRes
import Derived.Test.YtdkdfehlmphikaaHostM
import Derived.Test.YtdkdfehlmphikaaEvtM
import Derived.Test.YtdkdfehlmphikaaIsH
import Derived.Test.YtdkdfehlmphikaaTabL
namespace Go.Proofs.Ytdkdfehlmphikaa
open Go.RowKit
theorem s_Run_v {hs : List H3} {sz st : Int} {vs : List V6} {v1 v2 : Int} {v3 : List E7} {v4 : List Int} {vb : Bool} (hv : runT hs sz st vs = (v4, (v1, v2, v3), vb)) (p : Option Addr) (pn pc : Nat) (a : Option Addr) (n cap : Nat) (w : World) (hps : hs.length = pn) (hpn : pn ≤ 1048576) {B' : Nat} (oh : w.ownsRow B' 97 3 (.slice p pn pc) pn (hcells hs)) (hxs : vs.length = n) (hn : n ≤ 1048576) {B : Nat} (o : w.ownsRow B 39 6 (.slice a n cap) n (vCells vs)) :
    Calls Try.prog 16 #[.slice p pn pc, .int .i64 sz, .int .i64 st, .slice a n cap] w fun e w' => ∃ (a : Option Addr) (c : Nat) (b : Option Addr) (d : Nat), e = .returned (.tuple #[.slice a v4.length c, .agg #[.int .i64 v1, .int .i64 v2, .slice b v3.length d], .bool vb]) ∧
      w'.ownsRow w.heap.size 3 1 (.slice a v4.length c) v4.length (v4.map (Value.int .i64)) ∧ w'.ownsRow w.heap.size 69 7 (.slice b v3.length d) v3.length (eCells v3) ∧ (∀ k, (Value.slice a v4.length c).ownBlock = some k → (Value.slice b v3.length d).ownBlock = some k → False) ∧ Below w.heap.size w w' := by
  refine (s_RunEvents p pn pc hs sz st a n cap vs w hps hpn (row_vals oh) hxs hn (row_vals o).ints).mono ?_
  rintro e w' ⟨b, d, a, c, h1, h2, h3, h4⟩
  rw [hv] at h1 h2 h3
  exact ⟨b, d, a, c, h1, h2, h3, rows_ne h2 h3 (by decide), grown_below h4⟩
theorem c_Run_v {hs : List H3} {sz st : Int} {vs : List V6} {v1 v2 : Int} {v3 : List E7} {v4 : List Int} {vb : Bool} (hv : runT hs sz st vs = (v4, (v1, v2, v3), vb)) (p : Option Addr) (pn pc : Nat) (a : Option Addr) (n cap : Nat) (w : World) (hps : hs.length = pn) (hpn : pn ≤ 1048576) {B' : Nat} (oh : w.ownsRow B' 97 3 (.slice p pn pc) pn (hcells hs)) (hxs : vs.length = n) (hn : n ≤ 1048576) {B : Nat} (o : w.ownsRow B 39 6 (.slice a n cap) n (vCells vs)) :
    Calls Try.prog 15 #[.slice p pn pc, .int .i64 sz, .int .i64 st, .slice a n cap] w fun e w' => ∃ (a : Option Addr) (c : Nat) (b : Option Addr) (d : Nat), e = .returned (.tuple #[.slice a v4.length c, .agg #[.int .i64 v1, .int .i64 v2, .slice b v3.length d], .bool vb]) ∧
      w'.ownsRow w.heap.size 3 1 (.slice a v4.length c) v4.length (v4.map (Value.int .i64)) ∧ w'.ownsRow w.heap.size 69 7 (.slice b v3.length d) v3.length (eCells v3) ∧ (∀ k, (Value.slice a v4.length c).ownBlock = some k → (Value.slice b v3.length d).ownBlock = some k → False) ∧ Below w.heap.size w w' := by
  refine (c_RunEvents p pn pc hs sz st a n cap vs w hps hpn (row_vals oh) hxs hn (row_vals o).ints).mono ?_
  rintro e w' ⟨b, d, a, c, h1, h2, h3, h4⟩
  rw [hv] at h1 h2 h3
  exact ⟨b, d, a, c, h1, h2, h3, rows_ne h2 h3 (by decide), grown_below h4⟩
theorem run_bd (hs : List H3) (sz st : Int) (vs : List V6) : (runT hs sz st vs).2.1.2.2.length ≤ 40 ∧ (runT hs sz st vs).1.length ≤ 40 := by
  cases h : runB hs sz st vs
  · rw [run_no h]; exact ⟨Nat.zero_le _, Nat.zero_le _⟩
  · rw [run_yes h]
    have := run_tab (d := (runK hs sz st vs).1) (xs := (runK hs sz st vs).2) h (Nat.le_refl _) (run_all hs sz st vs)
    simp only [runB, Bool.and_eq_true] at h
    have := (ev_EV h.2).room
    dsimp only
    omega
set_option maxHeartbeats 8000000 in
set_option maxRecDepth 100000 in
theorem walkExactRunEvents (p : Option Addr) (pn pc : Nat) (hs : List H3) (sz st : Int) (a : Option Addr) (n cap : Nat) (vs : List V6) (w : World) (wp : IsHosts w p pn pc hs) (_ : (Lit.int .i64 sz).wf = true) (_ : (Lit.int .i64 st).wf = true) (w0 : IsEvs w a n cap vs) :
    Calls Try.prog 5 #[.slice p pn pc, .int .i64 sz, .int .i64 st, .slice a n cap] w fun e w' => e = .returned (.bool true) ∧ Below w.heap.size w w' := by
  obtain ⟨hL, hc, hm, hI⟩ := w0
  obtain ⟨hPL, hpc, hpm, hPH⟩ := wp
  by_cases hbig : (1048576 : Int) < pn
  · have hm : pn ≤ maxLen := Nat.le_trans hpc hpm
    go_enter Try.func5, Try.ntmps5
    go_wp2_with fail
    refine (c_szHostS_no p pn pc 1048576 _ hm (by omega) (by omega) hbig).mono ?_; rintro e w' ⟨rfl, rfl⟩
    go_wp2_with fail
    go_ret
    exact ⟨rfl, Below.refl _ _⟩
  have hpn : pn ≤ 1048576 := by omega
  have hpn0 : (pn : Int) ≤ 1048576 := by omega
  by_cases hbig2 : 1048576 - (pn : Int) < n
  · have hm : n ≤ maxLen := Nat.le_trans hc hm
    have hsp : ¬ (1048576 - (pn : Int) < 0) := by omega
    go_enter Try.func5, Try.ntmps5
    go_wp2_with fail
    refine (c_szHostS p pn pc 1048576 _ (by omega) hpn0).mono ?_; rintro e w' ⟨rfl, rfl⟩
    go_wp2_with fail
    refine (c_szEventS_no a n cap (1048576 - (pn : Int)) _ hm (by omega) (by omega) hbig2).mono ?_; rintro e w1 ⟨rfl, rfl⟩
    go_wp2_with fail
    go_ret
    exact ⟨rfl, Below.refl _ _⟩
  have hn0 : (n : Int) ≤ 1048576 - (pn : Int) := by omega
  have hn : n ≤ 1048576 := by omega
  have HL := Lib.hid hL
  have HP := Lib.hid hPL
  have HVL : Hid ((vInts vs).length = n * 6) := Lib.hid (by rw [vInts_len, hL])
  clear hbig hbig2 hL hPL hc hm hpc hpm
  obtain ⟨⟨v4, ⟨v1, v2, v3⟩, vb⟩, hv⟩ : ∃ v, runT hs sz st vs = v := ⟨_, rfl⟩
  have hbd := run_bd hs sz st vs
  rw [hv] at hbd
  have HN3 : Hid (v3.length ≤ 1048576) := Lib.hid (Nat.le_trans hbd.1 (by omega))
  have HN4 : Hid (v4.length ≤ 1048576) := Lib.hid (Nat.le_trans hbd.2 (by omega))
  have hn3 := HN3.out
  have hn4 := HN4.out
  have HV := Lib.hid hv
  clear hv hbd
  have D0 := Lib.hid (Below.refl w.heap.size w)
  go_enter Try.func5, Try.ntmps5
  have AW0 := Lib.hid (Below.refl w.heap.size w)
  have RI := Lib.hid hI
  have RH := Lib.hid hPH
  clear hI hPH
  go_wp2_with fail
  refine (c_szHostS p pn pc 1048576 _ (by omega) hpn0).mono ?_; rintro e w' ⟨rfl, rfl⟩
  have hsp : ¬ (1048576 - (pn : Int) < 0) := by omega
  go_wp2_with fail
  refine (c_szEventS a n cap (1048576 - (pn : Int)) _ (by omega) hn0).mono ?_; rintro e w' ⟨rfl, rfl⟩
  have hsz : ¬ (1048576 - (pn : Int) - (n : Int) < 0) := by omega
  go_wp2_with fail
  refine (c_toHostS p pn pc hs _ HP.out hpn RH.out).mono ?_; rintro e w1 ⟨a1, c1, rfl, o1, g1⟩
  have z1 := (grown_below g1).size
  have D1 := Lib.hid (Below.step D0.out (grown_below g1) (by omega))
  have AW1 := Lib.hid (Below.step AW0.out (grown_below g1) (by omega))
  have OA1 := Lib.hid o1
  have LA := Lib.hid (fun k hk => o1.lt k hk)
  clear g1 o1
  clear AW0
  go_wp2_with fail
  refine (c_toEventS a n cap (vInts vs) _ HVL.out hn (RI.out.below AW1.out)).mono ?_; rintro e w2 ⟨a2, c2, rfl, o2, g2⟩
  have z2 := (grown_below g2).size
  have D2 := Lib.hid (Below.step D1.out (grown_below g2) (by omega))
  have AW2 := Lib.hid (Below.step AW1.out (grown_below g2) (by omega))
  have OA2 := Lib.hid (row_below OA1.out (grown_below g2))
  have OB2 := Lib.hid o2
  have LB := Lib.hid (fun k hk => o2.lt k hk)
  clear g2 o2
  clear AW1 OA1
  go_wp2_with fail
  refine (s_Run_v HV.out a1 pn c1 a2 n c2 _ HP.out hpn OA2.out HL.out hn OB2.out).mono ?_; rintro e w3 ⟨a3, c3, a3', c3', rfl, o3, o3', s3, g3⟩
  have z3 := g3.size
  have D3 := Lib.hid (Below.step D2.out g3 (by omega))
  have AW3 := Lib.hid (Below.step AW2.out g3 (by omega))
  have OA3 := Lib.hid (row_below OA2.out g3)
  have OB3 := Lib.hid (row_below OB2.out g3)
  have OZ3 := Lib.hid o3
  have LZ := Lib.hid (fun k hk => o3.lt k hk)
  have OY3 := Lib.hid o3'
  have LY := Lib.hid (fun k hk => o3'.lt k hk)
  have SZY := Lib.hid s3
  clear g3 o3 o3' s3
  clear AW2 OA2 OB2
  clear OA3
  clear OB3
  obtain ⟨w4, hw4, hb4, hz4, hx4⟩ : ∃ W, W = w3.alloc (.cells #[.int .i64 v1, .int .i64 v2, .slice a3' v3.length c3'] 30) ∧ Below w3.heap.size w3 W ∧ W.heap.size = w3.heap.size + 1 ∧ Box W w3.heap.size 30 [.int .i64 v1, .int .i64 v2, .slice a3' v3.length c3'] := head1 w3 30 _
  have q4 := hz4
  have HW4 := Lib.hid hw4
  have z4 : w3.heap.size + 1 ≤ w4.heap.size := by omega
  have D4 := Lib.hid (Below.step D3.out hb4 (by omega))
  have AW4 := Lib.hid (Below.step AW3.out hb4 (by omega))
  have OZ4 := Lib.hid (row_below OZ3.out hb4)
  have OY4 := Lib.hid (row_below OY3.out hb4)
  have BY4 := Lib.hid hx4
  clear hw4 hb4 hz4 hx4
  go_wp2_with fail
  rw [← HW4.out]
  refine (c_toHostS p pn pc hs _ HP.out hpn (RH.out.below AW4.out)).mono ?_; rintro e w5 ⟨a5, c5, rfl, o5, g5⟩
  have z5 := (grown_below g5).size
  have D5 := Lib.hid (Below.step D4.out (grown_below g5) (by omega))
  have AW5 := Lib.hid (Below.step AW4.out (grown_below g5) (by omega))
  have BY5 := Lib.hid (BY4.out.keep (grown_below g5))
  have OZ5 := Lib.hid (row_below OZ4.out (grown_below g5))
  have OY5 := Lib.hid (row_below OY4.out (grown_below g5))
  have OXH5 := Lib.hid o5
  have LXH := Lib.hid (fun k hk => o5.lt k hk)
  clear g5 o5
  clear AW3 OZ3 OY3
  clear AW4 BY4 OZ4 OY4
  go_wp2_with fail
  refine (c_toEventS a n cap (vInts vs) _ HVL.out hn (RI.out.below AW5.out)).mono ?_; rintro e w6 ⟨a6, c6, rfl, o6, g6⟩
  have z6 := (grown_below g6).size
  have D6 := Lib.hid (Below.step D5.out (grown_below g6) (by omega))
  have AW6 := Lib.hid (Below.step AW5.out (grown_below g6) (by omega))
  have BY6 := Lib.hid (BY5.out.keep (grown_below g6))
  have OZ6 := Lib.hid (row_below OZ5.out (grown_below g6))
  have OY6 := Lib.hid (row_below OY5.out (grown_below g6))
  have OXH6 := Lib.hid (row_below OXH5.out (grown_below g6))
  have OXE6 := Lib.hid o6
  have LXE := Lib.hid (fun k hk => o6.lt k hk)
  clear g6 o6
  clear AW5 BY5 OZ5 OY5 OXH5
  go_wp2_with fail
  refine (c_Run_v HV.out a5 pn c5 a6 n c6 _ HP.out hpn OXH6.out HL.out hn OXE6.out).mono ?_; rintro e w7 ⟨a7, c7, a7', c7', rfl, o7, o7', s7, g7⟩
  have z7 := g7.size
  have D7 := Lib.hid (Below.step D6.out g7 (by omega))
  have AW7 := Lib.hid (Below.step AW6.out g7 (by omega))
  have BY7 := Lib.hid (BY6.out.keep g7)
  have OZ7 := Lib.hid (row_below OZ6.out g7)
  have OY7 := Lib.hid (row_below OY6.out g7)
  have OXH7 := Lib.hid (row_below OXH6.out g7)
  have OXE7 := Lib.hid (row_below OXE6.out g7)
  have OH7 := Lib.hid o7
  have LH := Lib.hid (fun k hk => o7.lt k hk)
  have OG7 := Lib.hid o7'
  have LG := Lib.hid (fun k hk => o7'.lt k hk)
  have SHG := Lib.hid s7
  clear g7 o7 o7' s7
  clear AW6 BY6 OZ6 OY6 OXH6 OXE6
  obtain ⟨w8, hw8, hb8, hz8, hx8⟩ : ∃ W, W = w7.alloc (.cells #[.int .i64 v1, .int .i64 v2, .slice a7' v3.length c7'] 30) ∧ Below w7.heap.size w7 W ∧ W.heap.size = w7.heap.size + 1 ∧ Box W w7.heap.size 30 [.int .i64 v1, .int .i64 v2, .slice a7' v3.length c7'] := head1 w7 30 _
  have q8 := hz8
  have HW8 := Lib.hid hw8
  have z8 : w7.heap.size + 1 ≤ w8.heap.size := by omega
  have D8 := Lib.hid (Below.step D7.out hb8 (by omega))
  have AW8 := Lib.hid (Below.step AW7.out hb8 (by omega))
  have BY8 := Lib.hid (BY7.out.keep hb8)
  have OZ8 := Lib.hid (row_below OZ7.out hb8)
  have OY8 := Lib.hid (row_below OY7.out hb8)
  have OXH8 := Lib.hid (row_below OXH7.out hb8)
  have OXE8 := Lib.hid (row_below OXE7.out hb8)
  have OH8 := Lib.hid (row_below OH7.out hb8)
  have OG8 := Lib.hid (row_below OG7.out hb8)
  have BG8 := Lib.hid hx8
  clear hw8 hb8 hz8 hx8
  go_wp2_with fail
  rw [← HW8.out]
  refine (c_eqIntS _ _ v4.length _ _ v4 _ rfl HN4.out (row_vals OH8.out).ints (row_vals OZ8.out).ints).mono ?_; rintro e w9 ⟨rfl, g9⟩
  have z9 := g9.size
  have D9 := Lib.hid (Below.step D8.out g9 (by omega))
  have AW9 := Lib.hid (Below.step AW8.out g9 (by omega))
  have BY9 := Lib.hid (BY8.out.keep g9)
  have BG9 := Lib.hid (BG8.out.keep g9)
  have OZ9 := Lib.hid (row_below OZ8.out g9)
  have OY9 := Lib.hid (row_below OY8.out g9)
  have OXH9 := Lib.hid (row_below OXH8.out g9)
  have OXE9 := Lib.hid (row_below OXE8.out g9)
  have OH9 := Lib.hid (row_below OH8.out g9)
  have OG9 := Lib.hid (row_below OG8.out g9)
  clear g9
  clear AW7 BY7 OZ7 OY7 OXH7 OXE7 OH7 OG7
  clear AW8 BY8 BG8 OZ8 OY8 OXH8 OXE8 OH8 OG8
  obtain ⟨xG0, xG1, xG2, xGf⟩ := BG9.out.three
  obtain ⟨xY0, xY1, xY2, xYf⟩ := BY9.out.three
  go_wp2_with fail
  refine (c_eqTable v1 v2 _ _ v3.length _ _ v3 _ rfl HN3.out (EntRow.ents OG9.out) (EntRow.ents OY9.out)).mono ?_; rintro e w10 ⟨rfl, g10⟩
  clear xG0 xG1 xG2 xGf xY0 xY1 xY2 xYf
  have z10 := g10.size
  have D10 := Lib.hid (Below.step D9.out g10 (by omega))
  have AW10 := Lib.hid (Below.step AW9.out g10 (by omega))
  have BY10 := Lib.hid (BY9.out.keep g10)
  have BG10 := Lib.hid (BG9.out.keep g10)
  have OZ10 := Lib.hid (row_below OZ9.out g10)
  have OY10 := Lib.hid (row_below OY9.out g10)
  have OXH10 := Lib.hid (row_below OXH9.out g10)
  have OXE10 := Lib.hid (row_below OXE9.out g10)
  have OH10 := Lib.hid (row_below OH9.out g10)
  have OG10 := Lib.hid (row_below OG9.out g10)
  clear g10
  clear AW9 BY9 BG9 OZ9 OY9 OXH9 OXE9 OH9 OG9
  go_wp2_with fail
  refine (c_toHostS p pn pc hs _ HP.out hpn (RH.out.below AW10.out)).mono ?_; rintro e w11 ⟨a11, c11, rfl, o11, g11⟩
  have z11 := (grown_below g11).size
  have D11 := Lib.hid (Below.step D10.out (grown_below g11) (by omega))
  have AW11 := Lib.hid (Below.step AW10.out (grown_below g11) (by omega))
  have BY11 := Lib.hid (BY10.out.keep (grown_below g11))
  have BG11 := Lib.hid (BG10.out.keep (grown_below g11))
  have OZ11 := Lib.hid (row_below OZ10.out (grown_below g11))
  have OY11 := Lib.hid (row_below OY10.out (grown_below g11))
  have OXH11 := Lib.hid (row_below OXH10.out (grown_below g11))
  have OXE11 := Lib.hid (row_below OXE10.out (grown_below g11))
  have OH11 := Lib.hid (row_below OH10.out (grown_below g11))
  have OG11 := Lib.hid (row_below OG10.out (grown_below g11))
  have OT11 := Lib.hid o11
  have LT := Lib.hid (fun k hk => o11.lt k hk)
  clear g11 o11
  clear AW10 BY10 BG10 OZ10 OY10 OXH10 OXE10 OH10 OG10
  go_wp2_with fail
  refine (c_eqHostS _ _ _ _ _ hs _ HP.out hpn (row_vals OXH11.out) (row_vals OT11.out)).mono ?_; rintro e w12 ⟨rfl, g12⟩
  have z12 := g12.size
  have D12 := Lib.hid (Below.step D11.out g12 (by omega))
  have AW12 := Lib.hid (Below.step AW11.out g12 (by omega))
  have BY12 := Lib.hid (BY11.out.keep g12)
  have BG12 := Lib.hid (BG11.out.keep g12)
  have OZ12 := Lib.hid (row_below OZ11.out g12)
  have OY12 := Lib.hid (row_below OY11.out g12)
  have OXH12 := Lib.hid (row_below OXH11.out g12)
  have OXE12 := Lib.hid (row_below OXE11.out g12)
  have OH12 := Lib.hid (row_below OH11.out g12)
  have OG12 := Lib.hid (row_below OG11.out g12)
  have OT12 := Lib.hid (row_below OT11.out g12)
  clear g12
  clear AW11 BY11 BG11 OZ11 OY11 OXH11 OXE11 OH11 OG11 OT11
  clear OT12
  go_wp2_with fail
  refine (c_toEventS a n cap (vInts vs) _ HVL.out hn (RI.out.below AW12.out)).mono ?_; rintro e w13 ⟨a13, c13, rfl, o13, g13⟩
  have z13 := (grown_below g13).size
  have D13 := Lib.hid (Below.step D12.out (grown_below g13) (by omega))
  have AW13 := Lib.hid (Below.step AW12.out (grown_below g13) (by omega))
  have BY13 := Lib.hid (BY12.out.keep (grown_below g13))
  have BG13 := Lib.hid (BG12.out.keep (grown_below g13))
  have OZ13 := Lib.hid (row_below OZ12.out (grown_below g13))
  have OY13 := Lib.hid (row_below OY12.out (grown_below g13))
  have OXH13 := Lib.hid (row_below OXH12.out (grown_below g13))
  have OXE13 := Lib.hid (row_below OXE12.out (grown_below g13))
  have OH13 := Lib.hid (row_below OH12.out (grown_below g13))
  have OG13 := Lib.hid (row_below OG12.out (grown_below g13))
  have OT13 := Lib.hid o13
  have LT := Lib.hid (fun k hk => o13.lt k hk)
  clear g13 o13
  clear AW12 BY12 BG12 OZ12 OY12 OXH12 OXE12 OH12 OG12
  go_wp2_with fail
  refine (c_eqEventS _ _ _ _ _ (vInts vs) _ HVL.out hn (row_vals OXE13.out).ints (row_vals OT13.out).ints).mono ?_; rintro e w14 ⟨rfl, g14⟩
  have z14 := g14.size
  have D14 := Lib.hid (Below.step D13.out g14 (by omega))
  have AW14 := Lib.hid (Below.step AW13.out g14 (by omega))
  have BY14 := Lib.hid (BY13.out.keep g14)
  have BG14 := Lib.hid (BG13.out.keep g14)
  have OZ14 := Lib.hid (row_below OZ13.out g14)
  have OY14 := Lib.hid (row_below OY13.out g14)
  have OXH14 := Lib.hid (row_below OXH13.out g14)
  have OXE14 := Lib.hid (row_below OXE13.out g14)
  have OH14 := Lib.hid (row_below OH13.out g14)
  have OG14 := Lib.hid (row_below OG13.out g14)
  have OT14 := Lib.hid (row_below OT13.out g14)
  clear g14
  clear AW13 BY13 BG13 OZ13 OY13 OXH13 OXE13 OH13 OG13 OT13
  clear OT14
  go_wp2_with fail
  refine (c_markHostS _ pn _ _ 1 _ _ hpn (by omega) (by omega) OXH14.out).mono ?_; rintro e w15 ⟨rfl, o15, g15⟩
  have z15 := g15.size
  have D15 := Lib.hid (D14.out.grown g15 (by omega) (fun k hk => by have := (LXH.out k hk).1; omega))
  have AW15 := Lib.hid (AW14.out.grown g15 (by omega) (fun k hk => by have := (LXH.out k hk).1; omega))
  have BY15 := Lib.hid (Box.kept BY14.out g15 (row_ne OXH14.out BY14.out (by decide)))
  have BG15 := Lib.hid (Box.kept BG14.out g15 (row_ne OXH14.out BG14.out (by decide)))
  have OZ15 := Lib.hid (row_kept OZ14.out g15 (fun k hk h => by have := LZ.out k hk; have := LXH.out k h; omega))
  have OY15 := Lib.hid (row_kept OY14.out g15 (fun k hk h => by have := LY.out k hk; have := LXH.out k h; omega))
  have OXE15 := Lib.hid (row_kept OXE14.out g15 (fun k hk h => by have := LXE.out k hk; have := LXH.out k h; omega))
  have OH15 := Lib.hid (row_kept OH14.out g15 (fun k hk h => by have := LH.out k hk; have := LXH.out k h; omega))
  have OG15 := Lib.hid (row_kept OG14.out g15 (fun k hk h => by have := LG.out k hk; have := LXH.out k h; omega))
  have OXH15 := Lib.hid o15
  clear o15 g15
  clear AW14 BY14 BG14 OZ14 OY14 OXH14 OXE14 OH14 OG14
  go_wp2_with fail
  refine (c_markEventS _ n _ _ (1 + 3 * (pn : Int)) _ _ hn (by omega) (by omega) OXE15.out).mono ?_; rintro e w16 ⟨rfl, o16, g16⟩
  have z16 := g16.size
  have D16 := Lib.hid (D15.out.grown g16 (by omega) (fun k hk => by have := (LXE.out k hk).1; omega))
  have AW16 := Lib.hid (AW15.out.grown g16 (by omega) (fun k hk => by have := (LXE.out k hk).1; omega))
  have BY16 := Lib.hid (Box.kept BY15.out g16 (row_ne OXE15.out BY15.out (by decide)))
  have BG16 := Lib.hid (Box.kept BG15.out g16 (row_ne OXE15.out BG15.out (by decide)))
  have OZ16 := Lib.hid (row_kept OZ15.out g16 (fun k hk h => by have := LZ.out k hk; have := LXE.out k h; omega))
  have OY16 := Lib.hid (row_kept OY15.out g16 (fun k hk h => by have := LY.out k hk; have := LXE.out k h; omega))
  have OXH16 := Lib.hid (row_kept OXH15.out g16 (fun k hk h => by have := LXH.out k hk; have := LXE.out k h; omega))
  have OH16 := Lib.hid (row_kept OH15.out g16 (fun k hk h => by have := LH.out k hk; have := LXE.out k h; omega))
  have OG16 := Lib.hid (row_kept OG15.out g16 (fun k hk h => by have := LG.out k hk; have := LXE.out k h; omega))
  have OXE16 := Lib.hid o16
  clear o16 g16
  clear AW15 BY15 BG15 OZ15 OY15 OXH15 OXE15 OH15 OG15
  have hk1 : ¬ (1 + 3 * (pn : Int) + 6 * (n : Int) < 0) := by omega
  go_wp2_with fail
  refine (c_eqIntS _ _ v4.length _ _ v4 _ rfl HN4.out (row_vals OH16.out).ints (row_vals OZ16.out).ints).mono ?_; rintro e w17 ⟨rfl, g17⟩
  have z17 := g17.size
  have D17 := Lib.hid (Below.step D16.out g17 (by omega))
  have AW17 := Lib.hid (Below.step AW16.out g17 (by omega))
  have BY17 := Lib.hid (BY16.out.keep g17)
  have BG17 := Lib.hid (BG16.out.keep g17)
  have OZ17 := Lib.hid (row_below OZ16.out g17)
  have OY17 := Lib.hid (row_below OY16.out g17)
  have OXH17 := Lib.hid (row_below OXH16.out g17)
  have OXE17 := Lib.hid (row_below OXE16.out g17)
  have OH17 := Lib.hid (row_below OH16.out g17)
  have OG17 := Lib.hid (row_below OG16.out g17)
  clear g17
  clear AW16 BY16 BG16 OZ16 OY16 OXH16 OXE16 OH16 OG16
  obtain ⟨xG0, xG1, xG2, xGf⟩ := BG17.out.three
  obtain ⟨xY0, xY1, xY2, xYf⟩ := BY17.out.three
  go_wp2_with fail
  refine (c_eqTable v1 v2 _ _ v3.length _ _ v3 _ rfl HN3.out (EntRow.ents OG17.out) (EntRow.ents OY17.out)).mono ?_; rintro e w18 ⟨rfl, g18⟩
  clear xG0 xG1 xG2 xGf xY0 xY1 xY2 xYf
  have z18 := g18.size
  have D18 := Lib.hid (Below.step D17.out g18 (by omega))
  have AW18 := Lib.hid (Below.step AW17.out g18 (by omega))
  have BY18 := Lib.hid (BY17.out.keep g18)
  have BG18 := Lib.hid (BG17.out.keep g18)
  have OZ18 := Lib.hid (row_below OZ17.out g18)
  have OY18 := Lib.hid (row_below OY17.out g18)
  have OXH18 := Lib.hid (row_below OXH17.out g18)
  have OXE18 := Lib.hid (row_below OXE17.out g18)
  have OH18 := Lib.hid (row_below OH17.out g18)
  have OG18 := Lib.hid (row_below OG17.out g18)
  clear g18
  clear AW17 BY17 BG17 OZ17 OY17 OXH17 OXE17 OH17 OG17
  go_wp2_with fail
  refine (r_markIntS _ v4.length _ _ 1 v4 _ HN4.out (by omega) (by omega) OH18.out).mono ?_; rintro e w19 ⟨rfl, o19, g19⟩
  have z19 := g19.size
  have D19 := Lib.hid (D18.out.grown g19 (by omega) (fun k hk => by have := (LH.out k hk).1; omega))
  have AW19 := Lib.hid (AW18.out.grown g19 (by omega) (fun k hk => by have := (LH.out k hk).1; omega))
  have BY19 := Lib.hid (Box.kept BY18.out g19 (row_ne OH18.out BY18.out (by decide)))
  have BG19 := Lib.hid (Box.kept BG18.out g19 (row_ne OH18.out BG18.out (by decide)))
  have OZ19 := Lib.hid (row_kept OZ18.out g19 (fun k hk h => by have := LZ.out k hk; have := LH.out k h; omega))
  have OY19 := Lib.hid (row_kept OY18.out g19 (fun k hk h => by have := LY.out k hk; have := LH.out k h; omega))
  have OXH19 := Lib.hid (row_kept OXH18.out g19 (fun k hk h => by have := LXH.out k hk; have := LH.out k h; omega))
  have OXE19 := Lib.hid (row_kept OXE18.out g19 (fun k hk h => by have := LXE.out k hk; have := LH.out k h; omega))
  have OG19 := Lib.hid (row_kept OG18.out g19 (fun k hk h => SHG.out k h hk))
  have OH19 := Lib.hid o19
  clear o19 g19
  clear AW18 BY18 BG18 OZ18 OY18 OXH18 OXE18 OH18 OG18
  obtain ⟨xG0, xG1, xG2, xGf⟩ := BG19.out.three
  go_wp2_with fail
  refine (c_markTable _ v1 v2 _ v3.length _ (1 + (v4.length : Int)) _ _ HN3.out (by omega) (by omega) OG19.out).mono ?_; rintro e w20 ⟨rfl, o20, g20⟩
  clear xG0 xG1 xG2 xGf
  have z20 := g20.size
  have D20 := Lib.hid (D19.out.grown g20 (by omega) (fun k hk => by have := (LG.out k hk).1; omega))
  have AW20 := Lib.hid (AW19.out.grown g20 (by omega) (fun k hk => by have := (LG.out k hk).1; omega))
  have BY20 := Lib.hid (Box.kept BY19.out g20 (row_ne OG19.out BY19.out (by decide)))
  have BG20 := Lib.hid (Box.kept BG19.out g20 (row_ne OG19.out BG19.out (by decide)))
  have OZ20 := Lib.hid (row_kept OZ19.out g20 (fun k hk h => by have := LZ.out k hk; have := LG.out k h; omega))
  have OY20 := Lib.hid (row_kept OY19.out g20 (fun k hk h => by have := LY.out k hk; have := LG.out k h; omega))
  have OXH20 := Lib.hid (row_kept OXH19.out g20 (fun k hk h => by have := LXH.out k hk; have := LG.out k h; omega))
  have OXE20 := Lib.hid (row_kept OXE19.out g20 (fun k hk h => by have := LXE.out k hk; have := LG.out k h; omega))
  have OH20 := Lib.hid (row_kept OH19.out g20 (fun k hk h => SHG.out k hk h))
  have OG20 := Lib.hid o20
  clear o20 g20
  clear AW19 BY19 BG19 OZ19 OY19 OXH19 OXE19 OH19 OG19
  have hh1 : ¬ (1 + (v4.length : Int) < 0) := by omega
  have hh2 : ¬ (1 + (v4.length : Int) + 7 * (v3.length : Int) < 0) := by omega
  go_wp2_with fail
  refine (c_heldIntS _ v4.length _ 1 _ HN4.out (by omega) (by omega) (row_vals OH20.out).ints).mono ?_; rintro e w' ⟨rfl, rfl⟩
  obtain ⟨xG0, xG1, xG2, xGf⟩ := BG20.out.three
  go_wp2_with fail
  refine (c_heldTable v1 v2 _ v3.length _ (1 + (v4.length : Int)) _ HN3.out (by omega) (by omega) (row_vals OG20.out)).mono ?_; rintro e w21 ⟨rfl, g21⟩
  clear xG0 xG1 xG2 xGf
  have z21 := g21.size
  have D21 := Lib.hid (Below.step D20.out g21 (by omega))
  have AW21 := Lib.hid (Below.step AW20.out g21 (by omega))
  have BY21 := Lib.hid (BY20.out.keep g21)
  have BG21 := Lib.hid (BG20.out.keep g21)
  have OZ21 := Lib.hid (row_below OZ20.out g21)
  have OY21 := Lib.hid (row_below OY20.out g21)
  have OXH21 := Lib.hid (row_below OXH20.out g21)
  have OXE21 := Lib.hid (row_below OXE20.out g21)
  have OH21 := Lib.hid (row_below OH20.out g21)
  have OG21 := Lib.hid (row_below OG20.out g21)
  clear g21
  clear AW20 BY20 BG20 OZ20 OY20 OXH20 OXE20 OH20 OG20
  go_wp2_with fail
  refine (c_toHostS p pn pc hs _ HP.out hpn (RH.out.below AW21.out)).mono ?_; rintro e w22 ⟨a22, c22, rfl, o22, g22⟩
  have z22 := (grown_below g22).size
  have D22 := Lib.hid (Below.step D21.out (grown_below g22) (by omega))
  have AW22 := Lib.hid (Below.step AW21.out (grown_below g22) (by omega))
  have BY22 := Lib.hid (BY21.out.keep (grown_below g22))
  have BG22 := Lib.hid (BG21.out.keep (grown_below g22))
  have OZ22 := Lib.hid (row_below OZ21.out (grown_below g22))
  have OY22 := Lib.hid (row_below OY21.out (grown_below g22))
  have OXH22 := Lib.hid (row_below OXH21.out (grown_below g22))
  have OXE22 := Lib.hid (row_below OXE21.out (grown_below g22))
  have OH22 := Lib.hid (row_below OH21.out (grown_below g22))
  have OG22 := Lib.hid (row_below OG21.out (grown_below g22))
  have OA22 := Lib.hid o22
  have LA := Lib.hid (fun k hk => o22.lt k hk)
  clear g22 o22
  clear AW21 BY21 BG21 OZ21 OY21 OXH21 OXE21 OH21 OG21
  go_wp2_with fail
  refine (c_toEventS a n cap (vInts vs) _ HVL.out hn (RI.out.below AW22.out)).mono ?_; rintro e w23 ⟨a23, c23, rfl, o23, g23⟩
  have z23 := (grown_below g23).size
  have D23 := Lib.hid (Below.step D22.out (grown_below g23) (by omega))
  have AW23 := Lib.hid (Below.step AW22.out (grown_below g23) (by omega))
  have BY23 := Lib.hid (BY22.out.keep (grown_below g23))
  have BG23 := Lib.hid (BG22.out.keep (grown_below g23))
  have OZ23 := Lib.hid (row_below OZ22.out (grown_below g23))
  have OY23 := Lib.hid (row_below OY22.out (grown_below g23))
  have OXH23 := Lib.hid (row_below OXH22.out (grown_below g23))
  have OXE23 := Lib.hid (row_below OXE22.out (grown_below g23))
  have OH23 := Lib.hid (row_below OH22.out (grown_below g23))
  have OG23 := Lib.hid (row_below OG22.out (grown_below g23))
  have OA23 := Lib.hid (row_below OA22.out (grown_below g23))
  have OB23 := Lib.hid o23
  have LB := Lib.hid (fun k hk => o23.lt k hk)
  clear g23 o23
  clear AW22 BY22 BG22 OZ22 OY22 OXH22 OXE22 OH22 OG22 OA22
  go_wp2_with fail
  refine (c_Run_v HV.out a22 pn c22 a23 n c23 _ HP.out hpn OA23.out HL.out hn OB23.out).mono ?_; rintro e w24 ⟨a24, c24, a24', c24', rfl, o24, o24', s24, g24⟩
  have z24 := g24.size
  have D24 := Lib.hid (Below.step D23.out g24 (by omega))
  have AW24 := Lib.hid (Below.step AW23.out g24 (by omega))
  have BY24 := Lib.hid (BY23.out.keep g24)
  have BG24 := Lib.hid (BG23.out.keep g24)
  have OZ24 := Lib.hid (row_below OZ23.out g24)
  have OY24 := Lib.hid (row_below OY23.out g24)
  have OXH24 := Lib.hid (row_below OXH23.out g24)
  have OXE24 := Lib.hid (row_below OXE23.out g24)
  have OH24 := Lib.hid (row_below OH23.out g24)
  have OG24 := Lib.hid (row_below OG23.out g24)
  have OA24 := Lib.hid (row_below OA23.out g24)
  have OB24 := Lib.hid (row_below OB23.out g24)
  have OV24 := Lib.hid o24
  have LV := Lib.hid (fun k hk => o24.lt k hk)
  have OU24 := Lib.hid o24'
  have LU := Lib.hid (fun k hk => o24'.lt k hk)
  have SVU := Lib.hid s24
  clear g24 o24 o24' s24
  clear AW23 BY23 BG23 OZ23 OY23 OXH23 OXE23 OH23 OG23 OA23 OB23
  clear OA24
  clear OB24
  obtain ⟨w25, hw25, hb25, hz25, hx25⟩ : ∃ W, W = w24.alloc (.cells #[.int .i64 v1, .int .i64 v2, .slice a24' v3.length c24'] 30) ∧ Below w24.heap.size w24 W ∧ W.heap.size = w24.heap.size + 1 ∧ Box W w24.heap.size 30 [.int .i64 v1, .int .i64 v2, .slice a24' v3.length c24'] := head1 w24 30 _
  have q25 := hz25
  have HW25 := Lib.hid hw25
  have z25 : w24.heap.size + 1 ≤ w25.heap.size := by omega
  have D25 := Lib.hid (Below.step D24.out hb25 (by omega))
  have AW25 := Lib.hid (Below.step AW24.out hb25 (by omega))
  have BY25 := Lib.hid (BY24.out.keep hb25)
  have BG25 := Lib.hid (BG24.out.keep hb25)
  have OZ25 := Lib.hid (row_below OZ24.out hb25)
  have OY25 := Lib.hid (row_below OY24.out hb25)
  have OXH25 := Lib.hid (row_below OXH24.out hb25)
  have OXE25 := Lib.hid (row_below OXE24.out hb25)
  have OH25 := Lib.hid (row_below OH24.out hb25)
  have OG25 := Lib.hid (row_below OG24.out hb25)
  have OV25 := Lib.hid (row_below OV24.out hb25)
  have OU25 := Lib.hid (row_below OU24.out hb25)
  have BU25 := Lib.hid hx25
  clear hw25 hb25 hz25 hx25
  go_wp2_with fail
  rw [← HW25.out]
  refine (c_eqIntS _ _ v4.length _ _ v4 _ rfl HN4.out (row_vals OV25.out).ints (row_vals OZ25.out).ints).mono ?_; rintro e w26 ⟨rfl, g26⟩
  have z26 := g26.size
  have D26 := Lib.hid (Below.step D25.out g26 (by omega))
  have AW26 := Lib.hid (Below.step AW25.out g26 (by omega))
  have BY26 := Lib.hid (BY25.out.keep g26)
  have BG26 := Lib.hid (BG25.out.keep g26)
  have BU26 := Lib.hid (BU25.out.keep g26)
  have OZ26 := Lib.hid (row_below OZ25.out g26)
  have OY26 := Lib.hid (row_below OY25.out g26)
  have OXH26 := Lib.hid (row_below OXH25.out g26)
  have OXE26 := Lib.hid (row_below OXE25.out g26)
  have OH26 := Lib.hid (row_below OH25.out g26)
  have OG26 := Lib.hid (row_below OG25.out g26)
  have OV26 := Lib.hid (row_below OV25.out g26)
  have OU26 := Lib.hid (row_below OU25.out g26)
  clear g26
  clear AW24 BY24 BG24 OZ24 OY24 OXH24 OXE24 OH24 OG24 OV24 OU24
  clear AW25 BY25 BG25 BU25 OZ25 OY25 OXH25 OXE25 OH25 OG25 OV25 OU25
  obtain ⟨xU0, xU1, xU2, xUf⟩ := BU26.out.three
  obtain ⟨xY0, xY1, xY2, xYf⟩ := BY26.out.three
  go_wp2_with fail
  refine (c_eqTable v1 v2 _ _ v3.length _ _ v3 _ rfl HN3.out (EntRow.ents OU26.out) (EntRow.ents OY26.out)).mono ?_; rintro e w27 ⟨rfl, g27⟩
  clear xU0 xU1 xU2 xUf xY0 xY1 xY2 xYf
  have z27 := g27.size
  have D27 := Lib.hid (Below.step D26.out g27 (by omega))
  have AW27 := Lib.hid (Below.step AW26.out g27 (by omega))
  have BY27 := Lib.hid (BY26.out.keep g27)
  have BG27 := Lib.hid (BG26.out.keep g27)
  have BU27 := Lib.hid (BU26.out.keep g27)
  have OZ27 := Lib.hid (row_below OZ26.out g27)
  have OY27 := Lib.hid (row_below OY26.out g27)
  have OXH27 := Lib.hid (row_below OXH26.out g27)
  have OXE27 := Lib.hid (row_below OXE26.out g27)
  have OH27 := Lib.hid (row_below OH26.out g27)
  have OG27 := Lib.hid (row_below OG26.out g27)
  have OV27 := Lib.hid (row_below OV26.out g27)
  have OU27 := Lib.hid (row_below OU26.out g27)
  clear g27
  clear AW26 BY26 BG26 BU26 OZ26 OY26 OXH26 OXE26 OH26 OG26 OV26 OU26
  go_wp2_with fail
  refine (c_heldIntS _ v4.length _ 1 _ HN4.out (by omega) (by omega) (row_vals OH27.out).ints).mono ?_; rintro e w' ⟨rfl, rfl⟩
  obtain ⟨xG0, xG1, xG2, xGf⟩ := BG27.out.three
  go_wp2_with fail
  refine (c_heldTable v1 v2 _ v3.length _ (1 + (v4.length : Int)) _ HN3.out (by omega) (by omega) (row_vals OG27.out)).mono ?_; rintro e w28 ⟨rfl, g28⟩
  clear xG0 xG1 xG2 xGf
  have z28 := g28.size
  have D28 := Lib.hid (Below.step D27.out g28 (by omega))
  have AW28 := Lib.hid (Below.step AW27.out g28 (by omega))
  have BY28 := Lib.hid (BY27.out.keep g28)
  have BG28 := Lib.hid (BG27.out.keep g28)
  have BU28 := Lib.hid (BU27.out.keep g28)
  have OZ28 := Lib.hid (row_below OZ27.out g28)
  have OY28 := Lib.hid (row_below OY27.out g28)
  have OXH28 := Lib.hid (row_below OXH27.out g28)
  have OXE28 := Lib.hid (row_below OXE27.out g28)
  have OH28 := Lib.hid (row_below OH27.out g28)
  have OG28 := Lib.hid (row_below OG27.out g28)
  have OV28 := Lib.hid (row_below OV27.out g28)
  have OU28 := Lib.hid (row_below OU27.out g28)
  clear g28
  clear AW27 BY27 BG27 BU27 OZ27 OY27 OXH27 OXE27 OH27 OG27 OV27 OU27
  go_wp2_with fail
  go_ret
  exact ⟨rfl, D28.out⟩
end Go.Proofs.Ytdkdfehlmphikaa
