/- The walk of the exact law of ExpireTable: true for all arguments. No condition. The text is written by a program (wip/ex_exp.py). -/
import Derived.Test.YtdkdfehlmphikaaTabK
import Derived.Test.YtdkdfehlmphikaaTabL
import Derived.Test.YtdkdfehlmphikaaOpA
namespace Go.Proofs.Ytdkdfehlmphikaa
open Go.RowKit
theorem s_Exp_v {N R now : Int} {es : List E7} {v1 v2 : Int} {v3 : List E7} (hv : expT (N, R, es) now = (v1, v2, v3)) (a : Option Addr) (n cap : Nat) (w : World) (hxs : es.length = n) (hn : n ≤ 1048576) {B : Nat} (o : w.ownsRow B 69 7 (.slice a n cap) n (eCells es)) :
    Calls Try.prog 51 #[.agg #[.int .i64 N, .int .i64 R, .slice a n cap], .int .i64 now] w (RetTab w v1 v2 v3) := by
  have := s_ExpireTable N R now a n cap es w hxs hn (EntRow.ents o) (own_none o)
  rwa [hv] at this
theorem c_Exp_v {N R now : Int} {es : List E7} {v1 v2 : Int} {v3 : List E7} (hv : expT (N, R, es) now = (v1, v2, v3)) (a : Option Addr) (n cap : Nat) (w : World) (hxs : es.length = n) (hn : n ≤ 1048576) {B : Nat} (o : w.ownsRow B 69 7 (.slice a n cap) n (eCells es)) :
    Calls Try.prog 50 #[.agg #[.int .i64 N, .int .i64 R, .slice a n cap], .int .i64 now] w (RetTab w v1 v2 v3) := by
  have := c_ExpireTable N R now a n cap es w hxs hn (EntRow.ents o) (own_none o)
  rwa [hv] at this
set_option maxHeartbeats 8000000 in
set_option maxRecDepth 100000 in
theorem walkExactExpireTable (N R : Int) (a : Option Addr) (n cap : Nat) (es : List E7) (now : Int) (w : World) (_ : (Lit.int .i64 N).wf = true) (_ : (Lit.int .i64 R).wf = true) (w0 : IsEnts w a n cap es) (_ : (Lit.int .i64 now).wf = true) :
    Calls Try.prog 11 #[.agg #[.int .i64 N, .int .i64 R, .slice a n cap], .int .i64 now] w fun e w' => e = .returned (.bool true) ∧ Below w.heap.size w w' := by
  obtain ⟨hL, hc, hm, _, hI⟩ := w0
  by_cases hbig : (1048576 : Int) < n
  · have hm : n ≤ maxLen := Nat.le_trans hc hm
    go_enter Try.func11, Try.ntmps11
    go_wp2_with fail
    refine (c_szTable_no N R a n cap 1048576 _ hm (by omega) (by omega) hbig).mono ?_; rintro e w1 ⟨rfl, b1⟩
    go_wp2_with fail
    go_ret
    exact ⟨rfl, ((Below.refl _ _).alloc (Nat.le_refl _) _).trans (b1.mono (by simp))⟩
  have hn : n ≤ 1048576 := by omega
  have hn0 : (n : Int) ≤ 1048576 := by omega
  have HL := Lib.hid hL
  clear hbig hL hc hm
  obtain ⟨⟨v1, v2, v3⟩, hv⟩ : ∃ v, expT (N, R, es) now = v := ⟨_, rfl⟩
  have HN3 : Hid (v3.length ≤ 1048576) := Lib.hid (by
    have h3 : (expT (N, R, es) now).2.2.length ≤ es.length := by
      unfold expT
      split
      · exact List.length_filter_le _ _
      · simp
    rw [hv] at h3
    have := HL.out
    simp only at h3
    omega)
  have hn3 := HN3.out
  have HV := Lib.hid hv
  clear hv
  have D0 := Lib.hid (Below.refl w.heap.size w)
  go_enter Try.func11, Try.ntmps11
  have AW0 := Lib.hid (Below.refl w.heap.size w)
  have RI := Lib.hid hI
  clear hI
  obtain ⟨w1, hw1, hb1, hz1, hx1⟩ : ∃ W, W = w.alloc (.cells #[.int .i64 N, .int .i64 R, .slice a n cap] 45) ∧ Below w.heap.size w W ∧ W.heap.size = w.heap.size + 1 ∧ Box W w.heap.size 45 [.int .i64 N, .int .i64 R, .slice a n cap] := head1 w 45 _
  have q1 := hz1
  have HW1 := Lib.hid hw1
  have z1 : w.heap.size + 1 ≤ w1.heap.size := by omega
  have D1 := Lib.hid (Below.step D0.out hb1 (by omega))
  have AW1 := Lib.hid (Below.step AW0.out hb1 (by omega))
  have BP1 := Lib.hid hx1
  clear hw1 hb1 hz1 hx1
  go_wp2_with fail
  rw [← HW1.out]
  refine (c_szTable N R a n cap 1048576 _ (by omega) hn0).mono ?_; rintro e w2 ⟨rfl, g2⟩
  have z2 := g2.size
  have D2 := Lib.hid (Below.step D1.out g2 (by omega))
  have AW2 := Lib.hid (Below.step AW1.out g2 (by omega))
  have BP2 := Lib.hid (BP1.out.keep g2)
  clear g2
  clear AW0
  clear AW1 BP1
  have hsz : ¬ (1048576 - (n : Int) < 0) := by omega
  obtain ⟨xP0, xP1, xP2, xPf⟩ := BP2.out.three
  go_wp2_with fail
  refine (c_toTable N R a n cap es _ HL.out hn (RI.out.below AW2.out)).mono ?_; rintro e w3 ⟨a3, c3, rfl, o3, g3⟩
  clear xP0 xP1 xP2 xPf
  have z3 := (grown_below g3).size
  have D3 := Lib.hid (Below.step D2.out (grown_below g3) (by omega))
  have AW3 := Lib.hid (Below.step AW2.out (grown_below g3) (by omega))
  have BP3 := Lib.hid (BP2.out.keep (grown_below g3))
  have OA3 := Lib.hid o3
  have LA := Lib.hid (fun k hk => o3.lt k hk)
  clear g3 o3
  clear AW2 BP2
  go_wp2_with fail
  refine (s_Exp_v HV.out a3 n c3 _ HL.out hn OA3.out).mono ?_; rintro e w4 ⟨a4, c4, rfl, o4, g4⟩
  have z4 := (grown_below g4).size
  have D4 := Lib.hid (Below.step D3.out (grown_below g4) (by omega))
  have AW4 := Lib.hid (Below.step AW3.out (grown_below g4) (by omega))
  have BP4 := Lib.hid (BP3.out.keep (grown_below g4))
  have OA4 := Lib.hid (row_below OA3.out (grown_below g4))
  have OY4 := Lib.hid o4
  have LY := Lib.hid (fun k hk => o4.lt k hk)
  clear g4 o4
  clear AW3 BP3 OA3
  obtain ⟨w5, hw5, hb5, hz5, hx5⟩ : ∃ W, W = w4.alloc (.cells #[.int .i64 v1, .int .i64 v2, .slice a4 v3.length c4] 30) ∧ Below w4.heap.size w4 W ∧ W.heap.size = w4.heap.size + 1 ∧ Box W w4.heap.size 30 [.int .i64 v1, .int .i64 v2, .slice a4 v3.length c4] := head1 w4 30 _
  have q5 := hz5
  have HW5 := Lib.hid hw5
  have z5 : w4.heap.size + 1 ≤ w5.heap.size := by omega
  have D5 := Lib.hid (Below.step D4.out hb5 (by omega))
  have AW5 := Lib.hid (Below.step AW4.out hb5 (by omega))
  have BP5 := Lib.hid (BP4.out.keep hb5)
  have OA5 := Lib.hid (row_below OA4.out hb5)
  have OY5 := Lib.hid (row_below OY4.out hb5)
  have BY5 := Lib.hid hx5
  clear hw5 hb5 hz5 hx5
  clear OA5
  obtain ⟨xP0, xP1, xP2, xPf⟩ := BP4.out.three
  have xPl : w.heap.size < w4.heap.size := by omega
  go_wp2_with fail
  rw [← HW5.out]
  refine (c_toTable N R a n cap es _ HL.out hn (RI.out.below AW5.out)).mono ?_; rintro e w6 ⟨a6, c6, rfl, o6, g6⟩
  clear xP0 xP1 xP2 xPf xPl
  have z6 := (grown_below g6).size
  have D6 := Lib.hid (Below.step D5.out (grown_below g6) (by omega))
  have AW6 := Lib.hid (Below.step AW5.out (grown_below g6) (by omega))
  have BP6 := Lib.hid (BP5.out.keep (grown_below g6))
  have BY6 := Lib.hid (BY5.out.keep (grown_below g6))
  have OY6 := Lib.hid (row_below OY5.out (grown_below g6))
  have OX06 := Lib.hid o6
  have LX0 := Lib.hid (fun k hk => o6.lt k hk)
  clear g6 o6
  clear AW4 BP4 OY4
  clear AW5 BP5 BY5 OY5
  obtain ⟨w7, hw7, hb7, hz7, hx7⟩ : ∃ W, W = w6.alloc (.cells #[.int .i64 N, .int .i64 R, .slice a6 n c6] 30) ∧ Below w6.heap.size w6 W ∧ W.heap.size = w6.heap.size + 1 ∧ Box W w6.heap.size 30 [.int .i64 N, .int .i64 R, .slice a6 n c6] := head1 w6 30 _
  have q7 := hz7
  have HW7 := Lib.hid hw7
  have z7 : w6.heap.size + 1 ≤ w7.heap.size := by omega
  have D7 := Lib.hid (Below.step D6.out hb7 (by omega))
  have AW7 := Lib.hid (Below.step AW6.out hb7 (by omega))
  have BP7 := Lib.hid (BP6.out.keep hb7)
  have BY7 := Lib.hid (BY6.out.keep hb7)
  have OY7 := Lib.hid (row_below OY6.out hb7)
  have OX07 := Lib.hid (row_below OX06.out hb7)
  have BX07 := Lib.hid hx7
  clear hw7 hb7 hz7 hx7
  go_wp2_with fail
  rw [← HW7.out]
  refine (c_Exp_v HV.out a6 n c6 _ HL.out hn OX07.out).mono ?_; rintro e w8 ⟨a8, c8, rfl, o8, g8⟩
  have z8 := (grown_below g8).size
  have D8 := Lib.hid (Below.step D7.out (grown_below g8) (by omega))
  have AW8 := Lib.hid (Below.step AW7.out (grown_below g8) (by omega))
  have BP8 := Lib.hid (BP7.out.keep (grown_below g8))
  have BY8 := Lib.hid (BY7.out.keep (grown_below g8))
  have BX08 := Lib.hid (BX07.out.keep (grown_below g8))
  have OY8 := Lib.hid (row_below OY7.out (grown_below g8))
  have OX08 := Lib.hid (row_below OX07.out (grown_below g8))
  have OG8 := Lib.hid o8
  have LG := Lib.hid (fun k hk => o8.lt k hk)
  clear g8 o8
  clear AW6 BP6 BY6 OY6 OX06
  clear AW7 BP7 BY7 BX07 OY7 OX07
  obtain ⟨w9, hw9, hb9, hz9, hx9⟩ : ∃ W, W = w8.alloc (.cells #[.int .i64 v1, .int .i64 v2, .slice a8 v3.length c8] 30) ∧ Below w8.heap.size w8 W ∧ W.heap.size = w8.heap.size + 1 ∧ Box W w8.heap.size 30 [.int .i64 v1, .int .i64 v2, .slice a8 v3.length c8] := head1 w8 30 _
  have q9 := hz9
  have HW9 := Lib.hid hw9
  have z9 : w8.heap.size + 1 ≤ w9.heap.size := by omega
  have D9 := Lib.hid (Below.step D8.out hb9 (by omega))
  have AW9 := Lib.hid (Below.step AW8.out hb9 (by omega))
  have BP9 := Lib.hid (BP8.out.keep hb9)
  have BY9 := Lib.hid (BY8.out.keep hb9)
  have BX09 := Lib.hid (BX08.out.keep hb9)
  have OY9 := Lib.hid (row_below OY8.out hb9)
  have OX09 := Lib.hid (row_below OX08.out hb9)
  have OG9 := Lib.hid (row_below OG8.out hb9)
  have BG9 := Lib.hid hx9
  clear hw9 hb9 hz9 hx9
  obtain ⟨xY0, xY1, xY2, xYf⟩ := BY8.out.three
  have xYl : w4.heap.size < w8.heap.size := by omega
  go_wp2_with fail
  rw [← HW9.out]
  refine (c_eqTable v1 v2 _ _ v3.length _ _ v3 _ rfl HN3.out (EntRow.ents OG9.out) (EntRow.ents OY9.out)).mono ?_; rintro e w10 ⟨rfl, g10⟩
  clear xY0 xY1 xY2 xYf xYl
  have z10 := g10.size
  have D10 := Lib.hid (Below.step D9.out g10 (by omega))
  have AW10 := Lib.hid (Below.step AW9.out g10 (by omega))
  have BP10 := Lib.hid (BP9.out.keep g10)
  have BY10 := Lib.hid (BY9.out.keep g10)
  have BX010 := Lib.hid (BX09.out.keep g10)
  have BG10 := Lib.hid (BG9.out.keep g10)
  have OY10 := Lib.hid (row_below OY9.out g10)
  have OX010 := Lib.hid (row_below OX09.out g10)
  have OG10 := Lib.hid (row_below OG9.out g10)
  clear g10
  clear AW8 BP8 BY8 BX08 OY8 OX08 OG8
  clear AW9 BP9 BY9 BX09 BG9 OY9 OX09 OG9
  go_wp2_with fail
  go_upto_region 10 with fail
  refine region_any _ 4 74 [31, 32, 33, 34] [(31, .val (.agg #[.int .i64 N, .int .i64 R, .slice a6 n c6])), (32, .val (.agg #[.int .i64 N, .int .i64 R, .slice a n cap])), (33, .row w10.heap.size 69 7 n (eCells es) (fun s => .agg #[.int .i64 N, .int .i64 R, s])), (34, .val (.bool true))] rfl (by kernel_rfl) ?_ ?_
  · refine ⟨?_, ?_, ?_, ?_, trivial⟩
    · refine op_val (d := 31) rfl (.agg #[.int .i64 N, .int .i64 R, .slice a6 n c6]) (fun fr9 wq hf _ hb => ⟨?_, ?_⟩) _
      rotate_left
      · exact rfl
      exact run_ldTi _ _ _ (.tmp 7) _ _ _ _ rfl (hf 7 (by kernel_rfl)) (BX010.out.keep hb)
    · refine op_val (d := 32) rfl (.agg #[.int .i64 N, .int .i64 R, .slice a n cap]) (fun fr9 wq hf _ hb => ⟨?_, ?_⟩) _
      rotate_left
      · exact rfl
      exact run_ldTl _ _ _ (.tmp 2) _ _ _ _ rfl (hf 2 (by kernel_rfl)) (BP10.out.keep hb)
    · intro fr9 wq hf hd hb
      have e32 : fr9.tmps.getD 32 undef = .agg #[.int .i64 N, .int .i64 R, .slice a n cap] := hd 32 (by kernel_rfl)
      have hv9 : (#[Operand.tmp 32] : Array Operand).map fr9.eval = #[.agg #[.int .i64 N, .int .i64 R, .slice a n cap]] := by simp only [List.map_toArray, List.map_cons, List.map_nil, Act.eval, e32]
      refine ⟨33, rfl, op_call rfl (run_callL _ _ _ 25 _ _ _ rfl rfl hv9 (enters_of Try.func25 (by kernel_rfl) rfl)) ?_⟩
      refine (c_toTable N R a n cap es _ HL.out hn ((RI.out.below AW10.out).below hb)).mono ?_
      rintro e w5 ⟨a5, c5, rfl, o5, g5⟩
      exact ⟨_, rfl, _, rfl, ⟨a5, c5, rfl, row_wider o5 hb.size⟩, grown_below g5⟩
    · intro fr9 wq hf hd hb
      have e31 : fr9.tmps.getD 31 undef = .agg #[.int .i64 N, .int .i64 R, .slice a6 n c6] := hd 31 (by kernel_rfl)
      obtain ⟨a33, c33, e33, o33⟩ : ∃ (a2 : Option Addr) (c2 : Nat), fr9.tmps.getD 33 undef = .agg #[.int .i64 N, .int .i64 R, .slice a2 n c2] ∧ wq.ownsRow w10.heap.size 69 7 (.slice a2 n c2) n (eCells es) := hd 33 (by kernel_rfl)
      have hv9 : (#[Operand.tmp 31, Operand.tmp 33] : Array Operand).map fr9.eval = #[.agg #[.int .i64 N, .int .i64 R, .slice a6 n c6], .agg #[.int .i64 N, .int .i64 R, .slice a33 n c33]] := by simp only [List.map_toArray, List.map_cons, List.map_nil, Act.eval, e31, e33]
      refine ⟨34, rfl, op_call rfl (run_callL _ _ _ 28 _ _ _ rfl rfl hv9 (enters_of Try.func28 (by kernel_rfl) rfl)) ?_⟩
      refine (c_eqTable N R _ _ n _ _ es _ HL.out hn (EntRow.ents (row_below OX010.out hb)) (EntRow.ents o33)).mono ?_
      rintro e w5 ⟨rfl, g5⟩
      exact ⟨_, rfl, _, rfl, rfl, g5⟩
  · intro fq wq hf hbq
    have e31 : fq 31 = .agg #[.int .i64 N, .int .i64 R, .slice a6 n c6] := hf 31 (by decide)
    have e32 : fq 32 = .agg #[.int .i64 N, .int .i64 R, .slice a n cap] := hf 32 (by decide)
    obtain ⟨a33, c33, e33, o33⟩ : ∃ (a2 : Option Addr) (c2 : Nat), fq 33 = .agg #[.int .i64 N, .int .i64 R, .slice a2 n c2] ∧ wq.ownsRow w10.heap.size 69 7 (.slice a2 n c2) n (eCells es) := hf 33 (by decide)
    have e34 : fq 34 = .bool true := hf 34 (by decide)
    simp only [List.drop_succ_cons, List.drop_zero, putL, Act.put, List.setIfInBounds_toArray, List.set_cons_succ, List.set_cons_zero, e31, e32, e33, e34]
    clear hf e31 e32 e33 e34
    obtain ⟨w11, rfl⟩ : ∃ W, W = wq := ⟨_, rfl⟩
    have z11 := hbq.size
    have D11 := Lib.hid (Below.step D10.out hbq (by omega))
    have AW11 := Lib.hid (Below.step AW10.out hbq (by omega))
    have BP11 := Lib.hid (BP10.out.keep hbq)
    have BY11 := Lib.hid (BY10.out.keep hbq)
    have BX011 := Lib.hid (BX010.out.keep hbq)
    have BG11 := Lib.hid (BG10.out.keep hbq)
    have OY11 := Lib.hid (row_below OY10.out hbq)
    have OX011 := Lib.hid (row_below OX010.out hbq)
    have OG11 := Lib.hid (row_below OG10.out hbq)
    clear hbq o33
    clear AW10 BP10 BY10 BX010 BG10 OY10 OX010 OG10
    obtain ⟨xX00, xX01, xX02, xX0f⟩ := BX011.out.three
    go_wp2_with fail
    refine (c_markTable _ N R _ n _ 1 _ _ hn (by omega) (by omega) OX011.out).mono ?_; rintro e w12 ⟨rfl, o12, g12⟩
    clear xX00 xX01 xX02 xX0f
    have z12 := g12.size
    have D12 := Lib.hid (D11.out.grown g12 (by omega) (fun k hk => by have := (LX0.out k hk).1; omega))
    have AW12 := Lib.hid (AW11.out.grown g12 (by omega) (fun k hk => by have := (LX0.out k hk).1; omega))
    have BP12 := Lib.hid (Box.kept BP11.out g12 (row_ne OX011.out BP11.out (by decide)))
    have BY12 := Lib.hid (Box.kept BY11.out g12 (row_ne OX011.out BY11.out (by decide)))
    have BX012 := Lib.hid (Box.kept BX011.out g12 (row_ne OX011.out BX011.out (by decide)))
    have BG12 := Lib.hid (Box.kept BG11.out g12 (row_ne OX011.out BG11.out (by decide)))
    have OY12 := Lib.hid (row_kept OY11.out g12 (fun k hk h => by have := LY.out k hk; have := LX0.out k h; omega))
    have OG12 := Lib.hid (row_kept OG11.out g12 (fun k hk h => by have := LG.out k hk; have := LX0.out k h; omega))
    have OX012 := Lib.hid o12
    clear o12 g12
    clear AW11 BP11 BY11 BX011 BG11 OY11 OX011 OG11
    have hk1 : ¬ (1 + 7 * (n : Int) < 0) := by omega
    obtain ⟨xG0, xG1, xG2, xGf⟩ := BG12.out.three
    obtain ⟨xY0, xY1, xY2, xYf⟩ := BY12.out.three
    go_wp2_with fail
    refine (c_eqTable v1 v2 _ _ v3.length _ _ v3 _ rfl HN3.out (EntRow.ents OG12.out) (EntRow.ents OY12.out)).mono ?_; rintro e w13 ⟨rfl, g13⟩
    clear xG0 xG1 xG2 xGf xY0 xY1 xY2 xYf
    have z13 := g13.size
    have D13 := Lib.hid (Below.step D12.out g13 (by omega))
    have AW13 := Lib.hid (Below.step AW12.out g13 (by omega))
    have BP13 := Lib.hid (BP12.out.keep g13)
    have BY13 := Lib.hid (BY12.out.keep g13)
    have BX013 := Lib.hid (BX012.out.keep g13)
    have BG13 := Lib.hid (BG12.out.keep g13)
    have OY13 := Lib.hid (row_below OY12.out g13)
    have OX013 := Lib.hid (row_below OX012.out g13)
    have OG13 := Lib.hid (row_below OG12.out g13)
    clear g13
    clear AW12 BP12 BY12 BX012 BG12 OY12 OX012 OG12
    obtain ⟨xG0, xG1, xG2, xGf⟩ := BG13.out.three
    go_wp2_with fail
    refine (c_markTable _ v1 v2 _ v3.length _ 1 _ _ HN3.out (by omega) (by omega) OG13.out).mono ?_; rintro e w14 ⟨rfl, o14, g14⟩
    clear xG0 xG1 xG2 xGf
    have z14 := g14.size
    have D14 := Lib.hid (D13.out.grown g14 (by omega) (fun k hk => by have := (LG.out k hk).1; omega))
    have AW14 := Lib.hid (AW13.out.grown g14 (by omega) (fun k hk => by have := (LG.out k hk).1; omega))
    have BP14 := Lib.hid (Box.kept BP13.out g14 (row_ne OG13.out BP13.out (by decide)))
    have BY14 := Lib.hid (Box.kept BY13.out g14 (row_ne OG13.out BY13.out (by decide)))
    have BX014 := Lib.hid (Box.kept BX013.out g14 (row_ne OG13.out BX013.out (by decide)))
    have BG14 := Lib.hid (Box.kept BG13.out g14 (row_ne OG13.out BG13.out (by decide)))
    have OY14 := Lib.hid (row_kept OY13.out g14 (fun k hk h => by have := LY.out k hk; have := LG.out k h; omega))
    have OX014 := Lib.hid (row_kept OX013.out g14 (fun k hk h => by have := LX0.out k hk; have := LG.out k h; omega))
    have OG14 := Lib.hid o14
    clear o14 g14
    clear AW13 BP13 BY13 BX013 BG13 OY13 OX013 OG13
    have hh1 : ¬ (1 + 7 * (v3.length : Int) < 0) := by omega
    obtain ⟨xG0, xG1, xG2, xGf⟩ := BG14.out.three
    go_wp2_with fail
    refine (c_heldTable v1 v2 _ v3.length _ 1 _ HN3.out (by omega) (by omega) (row_vals OG14.out)).mono ?_; rintro e w15 ⟨rfl, g15⟩
    clear xG0 xG1 xG2 xGf
    have z15 := g15.size
    have D15 := Lib.hid (Below.step D14.out g15 (by omega))
    have AW15 := Lib.hid (Below.step AW14.out g15 (by omega))
    have BP15 := Lib.hid (BP14.out.keep g15)
    have BY15 := Lib.hid (BY14.out.keep g15)
    have BX015 := Lib.hid (BX014.out.keep g15)
    have BG15 := Lib.hid (BG14.out.keep g15)
    have OY15 := Lib.hid (row_below OY14.out g15)
    have OX015 := Lib.hid (row_below OX014.out g15)
    have OG15 := Lib.hid (row_below OG14.out g15)
    clear g15
    clear AW14 BP14 BY14 BX014 BG14 OY14 OX014 OG14
    obtain ⟨xP0, xP1, xP2, xPf⟩ := BP15.out.three
    go_wp2_with fail
    refine (c_toTable N R a n cap es _ HL.out hn (RI.out.below AW15.out)).mono ?_; rintro e w16 ⟨a16, c16, rfl, o16, g16⟩
    clear xP0 xP1 xP2 xPf
    have z16 := (grown_below g16).size
    have D16 := Lib.hid (Below.step D15.out (grown_below g16) (by omega))
    have AW16 := Lib.hid (Below.step AW15.out (grown_below g16) (by omega))
    have BP16 := Lib.hid (BP15.out.keep (grown_below g16))
    have BY16 := Lib.hid (BY15.out.keep (grown_below g16))
    have BX016 := Lib.hid (BX015.out.keep (grown_below g16))
    have BG16 := Lib.hid (BG15.out.keep (grown_below g16))
    have OY16 := Lib.hid (row_below OY15.out (grown_below g16))
    have OX016 := Lib.hid (row_below OX015.out (grown_below g16))
    have OG16 := Lib.hid (row_below OG15.out (grown_below g16))
    have OA216 := Lib.hid o16
    have LA2 := Lib.hid (fun k hk => o16.lt k hk)
    clear g16 o16
    clear AW15 BP15 BY15 BX015 BG15 OY15 OX015 OG15
    go_wp2_with fail
    refine (c_Exp_v HV.out a16 n c16 _ HL.out hn OA216.out).mono ?_; rintro e w17 ⟨a17, c17, rfl, o17, g17⟩
    have z17 := (grown_below g17).size
    have D17 := Lib.hid (Below.step D16.out (grown_below g17) (by omega))
    have AW17 := Lib.hid (Below.step AW16.out (grown_below g17) (by omega))
    have BP17 := Lib.hid (BP16.out.keep (grown_below g17))
    have BY17 := Lib.hid (BY16.out.keep (grown_below g17))
    have BX017 := Lib.hid (BX016.out.keep (grown_below g17))
    have BG17 := Lib.hid (BG16.out.keep (grown_below g17))
    have OY17 := Lib.hid (row_below OY16.out (grown_below g17))
    have OX017 := Lib.hid (row_below OX016.out (grown_below g17))
    have OG17 := Lib.hid (row_below OG16.out (grown_below g17))
    have OA217 := Lib.hid (row_below OA216.out (grown_below g17))
    have OU17 := Lib.hid o17
    have LU := Lib.hid (fun k hk => o17.lt k hk)
    clear g17 o17
    clear AW16 BP16 BY16 BX016 BG16 OY16 OX016 OG16 OA216
    obtain ⟨w18, hw18, hb18, hz18, hx18⟩ : ∃ W, W = w17.alloc (.cells #[.int .i64 v1, .int .i64 v2, .slice a17 v3.length c17] 30) ∧ Below w17.heap.size w17 W ∧ W.heap.size = w17.heap.size + 1 ∧ Box W w17.heap.size 30 [.int .i64 v1, .int .i64 v2, .slice a17 v3.length c17] := head1 w17 30 _
    have q18 := hz18
    have HW18 := Lib.hid hw18
    have z18 : w17.heap.size + 1 ≤ w18.heap.size := by omega
    have D18 := Lib.hid (Below.step D17.out hb18 (by omega))
    have AW18 := Lib.hid (Below.step AW17.out hb18 (by omega))
    have BP18 := Lib.hid (BP17.out.keep hb18)
    have BY18 := Lib.hid (BY17.out.keep hb18)
    have BX018 := Lib.hid (BX017.out.keep hb18)
    have BG18 := Lib.hid (BG17.out.keep hb18)
    have OY18 := Lib.hid (row_below OY17.out hb18)
    have OX018 := Lib.hid (row_below OX017.out hb18)
    have OG18 := Lib.hid (row_below OG17.out hb18)
    have OA218 := Lib.hid (row_below OA217.out hb18)
    have OU18 := Lib.hid (row_below OU17.out hb18)
    have BU18 := Lib.hid hx18
    clear hw18 hb18 hz18 hx18
    clear OA218
    obtain ⟨xY0, xY1, xY2, xYf⟩ := BY17.out.three
    have xYl : w4.heap.size < w17.heap.size := by omega
    go_wp2_with fail
    rw [← HW18.out]
    refine (c_eqTable v1 v2 _ _ v3.length _ _ v3 _ rfl HN3.out (EntRow.ents OU18.out) (EntRow.ents OY18.out)).mono ?_; rintro e w19 ⟨rfl, g19⟩
    clear xY0 xY1 xY2 xYf xYl
    have z19 := g19.size
    have D19 := Lib.hid (Below.step D18.out g19 (by omega))
    have AW19 := Lib.hid (Below.step AW18.out g19 (by omega))
    have BP19 := Lib.hid (BP18.out.keep g19)
    have BY19 := Lib.hid (BY18.out.keep g19)
    have BX019 := Lib.hid (BX018.out.keep g19)
    have BG19 := Lib.hid (BG18.out.keep g19)
    have BU19 := Lib.hid (BU18.out.keep g19)
    have OY19 := Lib.hid (row_below OY18.out g19)
    have OX019 := Lib.hid (row_below OX018.out g19)
    have OG19 := Lib.hid (row_below OG18.out g19)
    have OU19 := Lib.hid (row_below OU18.out g19)
    clear g19
    clear AW17 BP17 BY17 BX017 BG17 OY17 OX017 OG17 OU17
    clear AW18 BP18 BY18 BX018 BG18 BU18 OY18 OX018 OG18 OU18
    obtain ⟨xG0, xG1, xG2, xGf⟩ := BG19.out.three
    go_wp2_with fail
    refine (c_heldTable v1 v2 _ v3.length _ 1 _ HN3.out (by omega) (by omega) (row_vals OG19.out)).mono ?_; rintro e w20 ⟨rfl, g20⟩
    clear xG0 xG1 xG2 xGf
    have z20 := g20.size
    have D20 := Lib.hid (Below.step D19.out g20 (by omega))
    have AW20 := Lib.hid (Below.step AW19.out g20 (by omega))
    have BP20 := Lib.hid (BP19.out.keep g20)
    have BY20 := Lib.hid (BY19.out.keep g20)
    have BX020 := Lib.hid (BX019.out.keep g20)
    have BG20 := Lib.hid (BG19.out.keep g20)
    have BU20 := Lib.hid (BU19.out.keep g20)
    have OY20 := Lib.hid (row_below OY19.out g20)
    have OX020 := Lib.hid (row_below OX019.out g20)
    have OG20 := Lib.hid (row_below OG19.out g20)
    have OU20 := Lib.hid (row_below OU19.out g20)
    clear g20
    clear AW19 BP19 BY19 BX019 BG19 BU19 OY19 OX019 OG19 OU19
    go_wp2_with fail
    go_ret
    exact ⟨rfl, D20.out⟩
end Go.Proofs.Ytdkdfehlmphikaa
