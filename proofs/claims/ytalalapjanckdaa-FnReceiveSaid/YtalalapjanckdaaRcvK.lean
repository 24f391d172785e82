/- The walk of the law FnReceive: true for all bytes. No condition. The text is written by a program (wip/ex_rcvl.py). -/
import Derived.Test.YtalalapjanckdaaDRd
import Derived.Test.YtalalapjanckdaaRcvM
import Derived.Test.YtalalapjanckdaaRcvZ
import Derived.Test.YtalalapjanckdaaRcvE
namespace Go.Proofs.Ytalalapjanckdaa
open Go.RowKit
set_option maxHeartbeats 4000000 in
set_option maxRecDepth 100000 in
theorem walkReceive (a : Option Addr) (len cap : Nat) (z : List Int) (w : World) (w0 : IsRow .u8 w a len cap z) :
    Calls Try.prog 7 #[.slice a len cap] w fun e w' => e = .returned (.bool true) ∧ Below w.heap.size w w' := by
  obtain ⟨hcl, hcap⟩ := w0.caps
  have HC := Lib.hid w0.code
  clear w0
  have hm := hcap
  unfold maxLen at hm
  by_cases hbig : (1048576 : Int) < (len : Int)
  · go_enter Try.func7, Try.ntmps7
    go_wp2
    go_ret
    exact ⟨rfl, Below.refl _ _⟩
  go_enter Try.func7, Try.ntmps7
  go_wp2_with fail
  refine (s_DrawReceive a len cap w hcl hcap HC.out).mono ?_; rintro e w1 ⟨N, R, b, c1, xs, x, rfl, N1, N2, R1, R2, hx, hI, hb⟩
  have z1 := hb.size
  have D1 := Lib.hid hb
  have AW1 := Lib.hid (Below.refl w1.heap.size w1)
  have RI := Lib.hid hI
  clear hb hI
  obtain ⟨⟨v1, v2, v3, v4, v5⟩, hv⟩ : ∃ v, rcv N R xs x = v := ⟨_, rfl⟩
  have hbd := rcv_bd N R xs x
  rw [hv] at hbd
  obtain ⟨hb3, hb4⟩ := hbd
  simp only at hb3 hb4
  have HN3 : Hid (v3.length ≤ 1048576) := Lib.hid (by omega)
  have HN4 : Hid (v4.length ≤ 1048576) := Lib.hid (by omega)
  have HNx : Hid (xs.length ≤ 1048576) := Lib.hid (by omega)
  have HV := Lib.hid hv
  clear hv
  obtain ⟨w2, hw2, hb2, hz2, hx2⟩ : ∃ W, W = w1.alloc (.cells #[.int .i64 N, .int .i64 R, .slice (some ⟨b, 0, none⟩) xs.length c1] 52) ∧ Below w1.heap.size w1 W ∧ W.heap.size = w1.heap.size + 1 ∧ Box W w1.heap.size 52 [.int .i64 N, .int .i64 R, .slice (some ⟨b, 0, none⟩) xs.length c1] := head1 w1 52 _
  have HW2 := Lib.hid hw2
  have z2 : w1.heap.size + 1 ≤ w2.heap.size := by omega
  have D2 := Lib.hid (Below.step D1.out hb2 (by omega))
  have AW2 := Lib.hid (Below.step AW1.out hb2 (by omega))
  have BP2 := Lib.hid hx2
  clear hw2 hb2 hz2 hx2
  go_wp2_with fail
  rw [← HW2.out]
  refine (c_Rcv_v HV.out _ _ c1 _ rfl HNx.out (RI.out.below AW2.out) (fun h => by cases h)).mono ?_; rintro e w3 ⟨a3, c3, a3', c3', rfl, o3, o3', s3, g3⟩
  have z3 := g3.size
  have D3 := Lib.hid (Below.step D2.out g3 (by omega))
  have AW3 := Lib.hid (Below.step AW2.out g3 (by omega))
  have BP3 := Lib.hid (BP2.out.keep g3)
  have OG3 := Lib.hid o3
  have LG := Lib.hid (fun k hk => o3.lt k hk)
  have OH3 := Lib.hid o3'
  have LH := Lib.hid (fun k hk => o3'.lt k hk)
  have SGH := Lib.hid s3
  clear g3 o3 o3' s3
  clear AW1
  clear AW2 BP2
  obtain ⟨w4, hw4, hb4, hz4, hx4⟩ : ∃ W, W = w3.alloc (.cells #[.int .i64 v1, .int .i64 v2, .slice a3 v3.length c3] 52) ∧ Below w3.heap.size w3 W ∧ W.heap.size = w3.heap.size + 1 ∧ Box W w3.heap.size 52 [.int .i64 v1, .int .i64 v2, .slice a3 v3.length c3] := head1 w3 52 _
  have HW4 := Lib.hid hw4
  have z4 : w3.heap.size + 1 ≤ w4.heap.size := by omega
  have D4 := Lib.hid (Below.step D3.out hb4 (by omega))
  have AW4 := Lib.hid (Below.step AW3.out hb4 (by omega))
  have BP4 := Lib.hid (BP3.out.keep hb4)
  have OG4 := Lib.hid (row_below OG3.out hb4)
  have OH4 := Lib.hid (row_below OH3.out hb4)
  have BG4 := Lib.hid hx4
  clear hw4 hb4 hz4 hx4
  obtain ⟨xP0, xP1, xP2, xPf⟩ := BP3.out.three
  have xPl : w1.heap.size < w3.heap.size := by omega
  go_wp2_with fail
  rw [← HW4.out]
  refine (s_Rcv_v HV.out _ _ c1 _ rfl HNx.out (RI.out.below AW4.out) (fun h => by cases h)).mono ?_; rintro e w5 ⟨a5, c5, a5', c5', rfl, o5, o5', -, -, -, -, g5⟩
  clear xP0 xP1 xP2 xPf xPl
  have z5 := g5.size
  have D5 := Lib.hid (Below.step D4.out g5 (by omega))
  have AW5 := Lib.hid (Below.step AW4.out g5 (by omega))
  have BP5 := Lib.hid (BP4.out.keep g5)
  have BG5 := Lib.hid (BG4.out.keep g5)
  have OG5 := Lib.hid (row_below OG4.out g5)
  have OH5 := Lib.hid (row_below OH4.out g5)
  clear g5
  clear AW3 BP3 OG3 OH3
  clear AW4 BP4 BG4 OG4 OH4
  have AY5 := Lib.hid (Below.refl w5.heap.size w5)
  have RY := Lib.hid o5
  clear o5
  have RZ := Lib.hid o5'
  clear o5'
  obtain ⟨w6, hw6, hb6, hz6, hx6⟩ : ∃ W, W = w5.alloc (.cells #[.int .i64 v1, .int .i64 v2, .slice a5 v3.length c5] 52) ∧ Below w5.heap.size w5 W ∧ W.heap.size = w5.heap.size + 1 ∧ Box W w5.heap.size 52 [.int .i64 v1, .int .i64 v2, .slice a5 v3.length c5] := head1 w5 52 _
  have HW6 := Lib.hid hw6
  have z6 : w5.heap.size + 1 ≤ w6.heap.size := by omega
  have D6 := Lib.hid (Below.step D5.out hb6 (by omega))
  have AW6 := Lib.hid (Below.step AW5.out hb6 (by omega))
  have AY6 := Lib.hid (Below.step AY5.out hb6 (by omega))
  have BP6 := Lib.hid (BP5.out.keep hb6)
  have BG6 := Lib.hid (BG5.out.keep hb6)
  have OG6 := Lib.hid (row_below OG5.out hb6)
  have OH6 := Lib.hid (row_below OH5.out hb6)
  have BY6 := Lib.hid hx6
  clear hw6 hb6 hz6 hx6
  obtain ⟨xG0, xG1, xG2, xGf⟩ := BG5.out.three
  have xGl : w3.heap.size < w5.heap.size := by omega
  go_wp2_with fail
  rw [← HW6.out]
  refine (c_sameReceiver v1 v2 _ _ v3.length _ _ v3 _ rfl HN3.out (own_ints OG6.out).1 (RY.out.below AY6.out)).mono ?_; rintro e w7 ⟨rfl, g7⟩
  clear xG0 xG1 xG2 xGf xGl
  have z7 := g7.size
  have D7 := Lib.hid (Below.step D6.out g7 (by omega))
  have AW7 := Lib.hid (Below.step AW6.out g7 (by omega))
  have AY7 := Lib.hid (Below.step AY6.out g7 (by omega))
  have BP7 := Lib.hid (BP6.out.keep g7)
  have BG7 := Lib.hid (BG6.out.keep g7)
  have BY7 := Lib.hid (BY6.out.keep g7)
  have OG7 := Lib.hid (row_below OG6.out g7)
  have OH7 := Lib.hid (row_below OH6.out g7)
  clear g7
  clear AW5 AY5 BP5 BG5 OG5 OH5
  clear AW6 AY6 BP6 BG6 BY6 OG6 OH6
  go_wp2_with fail
  refine (c_sameInts _ _ v4.length _ _ v4 _ rfl HN4.out (own_ints OH7.out).1 (RZ.out.below AY7.out)).mono ?_; rintro e w8 ⟨rfl, g8⟩
  have z8 := g8.size
  have D8 := Lib.hid (Below.step D7.out g8 (by omega))
  have AW8 := Lib.hid (Below.step AW7.out g8 (by omega))
  have AY8 := Lib.hid (Below.step AY7.out g8 (by omega))
  have BP8 := Lib.hid (BP7.out.keep g8)
  have BG8 := Lib.hid (BG7.out.keep g8)
  have BY8 := Lib.hid (BY7.out.keep g8)
  have OG8 := Lib.hid (row_below OG7.out g8)
  have OH8 := Lib.hid (row_below OH7.out g8)
  clear g8
  clear AW7 AY7 BP7 BG7 BY7 OG7 OH7
  cases v5
  · cases hrv : rv N R xs
    · obtain ⟨rfl, rfl, rfl, rfl, -⟩ := rcv_no hrv HV.out
      obtain ⟨xG0, xG1, xG2, xGf⟩ := BG8.out.three
      obtain ⟨xP0, xP1, xP2, xPf⟩ := BP8.out.three
      go_wp2_with fail
      refine (c_sameReceiver_zero 0 0 N R _ _ _ _ _ _).mono ?_; rintro e w9 ⟨⟨bq, rfl⟩, g9⟩
      clear xG0 xG1 xG2 xGf xP0 xP1 xP2 xPf
      have z9 := g9.size
      have D9 := Lib.hid (Below.step D8.out g9 (by omega))
      have AW9 := Lib.hid (Below.step AW8.out g9 (by omega))
      have AY9 := Lib.hid (Below.step AY8.out g9 (by omega))
      have BP9 := Lib.hid (BP8.out.keep g9)
      have BG9 := Lib.hid (BG8.out.keep g9)
      have BY9 := Lib.hid (BY8.out.keep g9)
      have OG9 := Lib.hid (row_below OG8.out g9)
      have OH9 := Lib.hid (row_below OH8.out g9)
      clear g9
      cases bq
      · obtain ⟨xG0, xG1, xG2, xGf⟩ := BG9.out.three
        go_wp2_with fail
        refine (c_alive _).mono ?_; rintro e w10 ⟨rfl, g10⟩
        clear xG0 xG1 xG2 xGf
        have z10 := g10.size
        have D10 := Lib.hid (Below.step D9.out g10 (by omega))
        have AW10 := Lib.hid (Below.step AW9.out g10 (by omega))
        have AY10 := Lib.hid (Below.step AY9.out g10 (by omega))
        have BP10 := Lib.hid (BP9.out.keep g10)
        have BG10 := Lib.hid (BG9.out.keep g10)
        have BY10 := Lib.hid (BY9.out.keep g10)
        have OG10 := Lib.hid (row_below OG9.out g10)
        have OH10 := Lib.hid (row_below OH9.out g10)
        clear g10
        clear AW9 AY9 BP9 BG9 BY9 OG9 OH9
        go_wp2_with fail
        go_ret
        exact ⟨rfl, D10.out⟩
      · obtain ⟨xG0, xG1, xG2, xGf⟩ := BG9.out.three
        go_wp2_with fail
        refine (c_alive _).mono ?_; rintro e w10 ⟨rfl, g10⟩
        clear xG0 xG1 xG2 xGf
        have z10 := g10.size
        have D10 := Lib.hid (Below.step D9.out g10 (by omega))
        have AW10 := Lib.hid (Below.step AW9.out g10 (by omega))
        have AY10 := Lib.hid (Below.step AY9.out g10 (by omega))
        have BP10 := Lib.hid (BP9.out.keep g10)
        have BG10 := Lib.hid (BG9.out.keep g10)
        have BY10 := Lib.hid (BY9.out.keep g10)
        have OG10 := Lib.hid (row_below OG9.out g10)
        have OH10 := Lib.hid (row_below OH9.out g10)
        clear g10
        clear AW9 AY9 BP9 BG9 BY9 OG9 OH9
        go_wp2_with fail
        go_ret
        exact ⟨rfl, D10.out⟩
    · obtain ⟨-, -, -, -, hno⟩ := rcv_law hrv HV.out
      obtain ⟨rfl, rfl, rfl, rfl⟩ := hno rfl
      obtain ⟨xG0, xG1, xG2, xGf⟩ := BG8.out.three
      obtain ⟨xP0, xP1, xP2, xPf⟩ := BP8.out.three
      go_wp2_with fail
      refine (c_sameReceiver v1 v2 _ _ v3.length _ _ v3 _ rfl HN3.out (own_ints OG8.out).1 (RI.out.below AW8.out)).mono ?_; rintro e w9 ⟨rfl, g9⟩
      clear xG0 xG1 xG2 xGf xP0 xP1 xP2 xPf
      have z9 := g9.size
      have D9 := Lib.hid (Below.step D8.out g9 (by omega))
      have AW9 := Lib.hid (Below.step AW8.out g9 (by omega))
      have AY9 := Lib.hid (Below.step AY8.out g9 (by omega))
      have BP9 := Lib.hid (BP8.out.keep g9)
      have BG9 := Lib.hid (BG8.out.keep g9)
      have BY9 := Lib.hid (BY8.out.keep g9)
      have OG9 := Lib.hid (row_below OG8.out g9)
      have OH9 := Lib.hid (row_below OH8.out g9)
      clear g9
      clear AW8 AY8 BP8 BG8 BY8 OG8 OH8
      go_wp2_with fail
      refine (c_alive _).mono ?_; rintro e w10 ⟨rfl, g10⟩
      have z10 := g10.size
      have D10 := Lib.hid (Below.step D9.out g10 (by omega))
      have AW10 := Lib.hid (Below.step AW9.out g10 (by omega))
      have AY10 := Lib.hid (Below.step AY9.out g10 (by omega))
      have BP10 := Lib.hid (BP9.out.keep g10)
      have BG10 := Lib.hid (BG9.out.keep g10)
      have BY10 := Lib.hid (BY9.out.keep g10)
      have OG10 := Lib.hid (row_below OG9.out g10)
      have OH10 := Lib.hid (row_below OH9.out g10)
      clear g10
      clear AW9 AY9 BP9 BG9 BY9 OG9 OH9
      go_wp2_with fail
      go_ret
      exact ⟨rfl, D10.out⟩
  · have hrv : rv N R xs = true := by
      cases hrv : rv N R xs
      · obtain ⟨-, -, -, -, h⟩ := rcv_no hrv HV.out; cases h
      · rfl
    obtain ⟨hr1, hup, hnx, hag, -⟩ := rcv_law hrv HV.out
    have HR1 := Lib.hid hr1
    have HUP := Lib.hid hup
    have HNX := Lib.hid hnx
    have HAG := Lib.hid (hag rfl)
    clear hrv hr1 hup hnx hag
    obtain ⟨xP0, xP1, xP2, xPf⟩ := BP8.out.three
    have hgP : w1.heap.size < w8.heap.size := by omega
    go_wp2_with fail
    go_loopw [11] (fun i wr => ∃ k : Nat, k ≤ v4.length ∧ i = .int .i64 (k : Int) ∧ Below w8.heap.size w8 wr) (fun i _ => v4.length - (intOf i).toNat)
    case atStart => exact ⟨0, Nat.zero_le _, rfl, Below.refl _ _⟩
    case round =>
      obtain ⟨k, hk, rfl, hB⟩ := hrel
      have HB := Lib.hid hB
      have zr := hB.size
      clear xP0 xP1 xP2 xPf
      have BPr := Lib.hid (BP8.out.keep hB)
      have OHr := Lib.hid (row_below OH8.out hB)
      have OGr := Lib.hid (row_below OG8.out hB)
      have BGr := Lib.hid (BG8.out.keep hB)
      have Dr := Lib.hid (Below.step D8.out hB (by omega))
      clear hB
      by_cases hlt : k < v4.length
      · obtain ⟨b9, o9, he9, hb9, hcc⟩ := (own_ints OHr.out).1.at rfl hlt
        have c9 := hcc k hlt
        rw [HUP.out, upFrom_get _ _ _ hlt] at c9
        subst he9
        clear hcc
        obtain ⟨xP0, xP1, xP2, xPf⟩ := BPr.out.three
        have hk1 : (0 : Int) ≤ (k : Int) := by omega
        have hk2 : (k : Int) < (v4.length : Int) := by omega
        have hw1 : IntKind.i64.wrap (N + (k : Int)) = N + (k : Int) := IntWalk.i64_in _ (by omega)
        go_wp2
        go_quiet (fail)
        go_wp2
        go_roundw
        case rel => exact ⟨k + 1, by omega, by go_num, below_drewN HB.out _⟩
        case measure => simp [intOf]; omega
      · have hkl : k = v4.length := by omega
        subst hkl
        obtain ⟨w9, rfl⟩ : ∃ wo : World, wo = wr := ⟨_, rfl⟩
        have D9 := Dr
        have BP9 := BPr
        have BG9 := BGr
        have OG9 := OGr
        have OH9 := OHr
        have AW9 := Lib.hid (Below.step AW8.out HB.out (by omega))
        obtain ⟨xG0, xG1, xG2, xGf⟩ := BG9.out.three
        go_wp2_with fail
        refine (c_Rcv_v HAG.out _ _ _ _ rfl HN3.out (own_ints OG9.out).1 (own_none OG9.out)).mono ?_; rintro e w10 ⟨a10, c10, a10', c10', rfl, o10, o10', s10, g10⟩
        clear xG0 xG1 xG2 xGf
        have z10 := g10.size
        have D10 := Lib.hid (Below.step D9.out g10 (by omega))
        have AW10 := Lib.hid (Below.step AW9.out g10 (by omega))
        have BP10 := Lib.hid (BP9.out.keep g10)
        have BG10 := Lib.hid (BG9.out.keep g10)
        have OG10 := Lib.hid (row_below OG9.out g10)
        have OH10 := Lib.hid (row_below OH9.out g10)
        have OU10 := Lib.hid o10
        have LU := Lib.hid (fun k hk => o10.lt k hk)
        have OV10 := Lib.hid o10'
        have LV := Lib.hid (fun k hk => o10'.lt k hk)
        have SUV := Lib.hid s10
        clear g10 o10 o10' s10
        clear AW9 BP9 BG9 OG9 OH9
        obtain ⟨w11, hw11, hb11, hz11, hx11⟩ : ∃ W, W = w10.alloc (.cells #[.int .i64 v1, .int .i64 v2, .slice a10 v3.length c10] 52) ∧ Below w10.heap.size w10 W ∧ W.heap.size = w10.heap.size + 1 ∧ Box W w10.heap.size 52 [.int .i64 v1, .int .i64 v2, .slice a10 v3.length c10] := head1 w10 52 _
        have HW11 := Lib.hid hw11
        have z11 : w10.heap.size + 1 ≤ w11.heap.size := by omega
        have D11 := Lib.hid (Below.step D10.out hb11 (by omega))
        have AW11 := Lib.hid (Below.step AW10.out hb11 (by omega))
        have BP11 := Lib.hid (BP10.out.keep hb11)
        have BG11 := Lib.hid (BG10.out.keep hb11)
        have OG11 := Lib.hid (row_below OG10.out hb11)
        have OH11 := Lib.hid (row_below OH10.out hb11)
        have OU11 := Lib.hid (row_below OU10.out hb11)
        have OV11 := Lib.hid (row_below OV10.out hb11)
        have BU11 := Lib.hid hx11
        clear hw11 hb11 hz11 hx11
        obtain ⟨xG0, xG1, xG2, xGf⟩ := BG10.out.three
        have xGl : w3.heap.size < w10.heap.size := by omega
        go_wp2_with fail
        rw [← HW11.out]
        refine (c_ReceiverValid v1 v2 _ v3.length _ v3 _ rfl HN3.out (own_ints OG11.out).1).mono ?_; rintro e w12 ⟨rfl, g12⟩
        clear xG0 xG1 xG2 xGf xGl
        have z12 := g12.size
        rw [HR1.out]
        have D12 := Lib.hid (Below.step D11.out g12 (by omega))
        have AW12 := Lib.hid (Below.step AW11.out g12 (by omega))
        have BP12 := Lib.hid (BP11.out.keep g12)
        have BG12 := Lib.hid (BG11.out.keep g12)
        have BU12 := Lib.hid (BU11.out.keep g12)
        have OG12 := Lib.hid (row_below OG11.out g12)
        have OH12 := Lib.hid (row_below OH11.out g12)
        have OU12 := Lib.hid (row_below OU11.out g12)
        have OV12 := Lib.hid (row_below OV11.out g12)
        clear g12
        have hnxb : (v1 == N + (v4.length : Int)) = true := beq_iff_eq.2 HNX.out
        obtain ⟨xG0, xG1, xG2, xGf⟩ := BG12.out.three
        obtain ⟨xP0, xP1, xP2, xPf⟩ := BP12.out.three
        obtain ⟨xU0, xU1, xU2, xUf⟩ := BU12.out.three
        go_wp2_with fail
        refine (c_sameReceiver v1 v2 _ _ v3.length _ _ v3 _ rfl HN3.out (own_ints OU12.out).1 (own_ints OG12.out).1).mono ?_; rintro e w13 ⟨rfl, g13⟩
        clear xG0 xG1 xG2 xGf xP0 xP1 xP2 xPf xU0 xU1 xU2 xUf
        have z13 := g13.size
        have D13 := Lib.hid (Below.step D12.out g13 (by omega))
        have AW13 := Lib.hid (Below.step AW12.out g13 (by omega))
        have BP13 := Lib.hid (BP12.out.keep g13)
        have BG13 := Lib.hid (BG12.out.keep g13)
        have BU13 := Lib.hid (BU12.out.keep g13)
        have OG13 := Lib.hid (row_below OG12.out g13)
        have OH13 := Lib.hid (row_below OH12.out g13)
        have OU13 := Lib.hid (row_below OU12.out g13)
        have OV13 := Lib.hid (row_below OV12.out g13)
        clear g13
        clear AW12 BP12 BG12 BU12 OG12 OH12 OU12 OV12
        go_wp2_with fail
        go_ret
        exact ⟨rfl, D13.out⟩
end Go.Proofs.Ytalalapjanckdaa
