/- The walk of the exact law of Receive: true for all arguments. No condition. The text is written by a program (wip/ex_rcv.py). -/
import Derived.Test.YtalalapjanckdaaRcvL
namespace Go.Proofs.Ytalalapjanckdaa
open Go.RowKit
theorem below_drew {B : Nat} {w w' : World} (h : Below B w w') : Below B w w'.drew := ⟨h.os, h.tape, h.output, h.size, h.block⟩
theorem Box.kept {w w' : World} {g T : Nat} {vs : List Value} {r : Option Nat} (h : Box w g T vs) (hg : w.grownBy w' r) (hne : r ≠ some g) : Box w' g T vs := (hg.block g h.lt (fun e => hne e.symm)).trans h
theorem s_Rcv_v {N R : Int} {xs : List Int} {x v1 v2 : Int} {v3 v4 : List Int} {v5 : Bool} (hv : rcv N R xs x = (v1, v2, v3, v4, v5)) (a : Option Addr) (n cap : Nat) (w : World) (hxs : xs.length = n) (hn : n ≤ 1048576) (h : Ints w a xs) (ha : a = none → n = 0 ∧ cap = 0) :
    Calls Try.prog 30 #[.agg #[.int .i64 N, .int .i64 R, .slice a n cap], .int .i64 x] w fun e w' => ∃ (a : Option Addr) (c : Nat) (b : Option Addr) (d : Nat), e = .returned (.tuple #[.agg #[.int .i64 v1, .int .i64 v2, .slice a v3.length c], .slice b v4.length d, .bool v5]) ∧ Ints w' a v3 ∧ Ints w' b v4 ∧ (a = none → v3.length = 0 ∧ c = 0) ∧ (b = none → v4.length = 0 ∧ d = 0) ∧ (∀ q, a = some q → w.heap.size ≤ q.block) ∧ (v4 = [] ∨ ∀ q, b = some q → w.heap.size ≤ q.block) ∧ Below w.heap.size w w' :=
  (s_Receive N R a n cap xs x w hxs hn h ha).mono fun e w' h => by
    rw [hv] at h
    exact h
theorem c_Rcv_v {N R : Int} {xs : List Int} {x v1 v2 : Int} {v3 v4 : List Int} {v5 : Bool} (hv : rcv N R xs x = (v1, v2, v3, v4, v5)) (a : Option Addr) (n cap : Nat) (w : World) (hxs : xs.length = n) (hn : n ≤ 1048576) (h : Ints w a xs) (ha : a = none → n = 0 ∧ cap = 0) :
    Calls Try.prog 29 #[.agg #[.int .i64 N, .int .i64 R, .slice a n cap], .int .i64 x] w fun e w' => ∃ (a : Option Addr) (c : Nat) (b : Option Addr) (d : Nat), e = .returned (.tuple #[.agg #[.int .i64 v1, .int .i64 v2, .slice a v3.length c], .slice b v4.length d, .bool v5]) ∧
      w'.ownsRow w.heap.size 3 1 (.slice a v3.length c) v3.length (v3.map (Value.int .i64)) ∧ w'.ownsRow w.heap.size 3 1 (.slice b v4.length d) v4.length (v4.map (Value.int .i64)) ∧
      (∀ k, (Value.slice a v3.length c).ownBlock = some k → (Value.slice b v4.length d).ownBlock ≠ some k) ∧ Below w.heap.size w w' :=
  (c_Receive' N R a n cap xs x w hxs hn h ha).mono fun e w' h => by rw [hv] at h; exact h
theorem insV_le (xs : List Int) (i : Nat) (x : Int) : (insV xs i x).length ≤ xs.length + 1 := by
  simp only [insV, List.length_append, List.length_cons, List.length_take, List.length_drop]; omega
theorem rcv_bd (N R : Int) (xs : List Int) (x : Int) : (rcv N R xs x).2.2.1.length ≤ 11 ∧ (rcv N R xs x).2.2.2.1.length ≤ 11 := by
  cases hv : rv N R xs
  · rw [rcv_bad hv]; simp
  · have hs := rv_small hv
    have h1 := insV_le xs (xs.countP (· < x)) x
    have h2 := runLen_le xs N
    unfold rcv
    rw [if_neg (by simp [hv])]
    split
    · exact ⟨by simp; omega, by simp⟩
    split
    · exact ⟨by simp; omega, by simp⟩
    split
    · exact ⟨by simp; omega, by simp⟩
    split
    · exact ⟨by simp; omega, by simp⟩
    · exact ⟨by simp; omega, by simp [upFrom_len]; omega⟩
set_option maxHeartbeats 4000000 in
set_option maxRecDepth 100000 in
theorem walkExactReceive (N R : Int) (a : Option Addr) (n cap : Nat) (z : List Int) (x : Int) (w : World) (_ : (Lit.int .i64 N).wf = true) (_ : (Lit.int .i64 R).wf = true) (w0 : IsRow .i64 w a n cap z) (_ : (Lit.int .i64 x).wf = true) :
    Calls Try.prog 8 #[.agg #[.int .i64 N, .int .i64 R, .slice a n cap], .int .i64 x] w fun e w' => e = .returned (.bool true) ∧ Below w.heap.size w w' := by
  by_cases hbig : (1048576 : Int) < n
  · have hm : n ≤ maxLen := by
      rcases w0 with ⟨-, rfl, -⟩ | ⟨_, -, h1, h2, -⟩
      · exact Nat.zero_le _
      · omega
    go_enter Try.func8, Try.ntmps8
    go_wp2_with fail
    refine (c_szReceiver_no N R a n cap 1048576 _ hm (by omega) (by omega) hbig).mono ?_; rintro e w1 ⟨rfl, b1⟩
    go_wp2_with fail
    go_ret
    exact ⟨rfl, ((Below.refl _ _).alloc (Nat.le_refl _) _).trans (b1.mono (by simp))⟩
  have hn : n ≤ 1048576 := by omega
  have hn0 : (n : Int) ≤ 1048576 := by omega
  obtain ⟨hI, hL⟩ := w0.ints
  generalize z.take n = xs at hI hL
  have HL := Lib.hid hL
  clear w0 hbig hL
  obtain ⟨⟨v1, v2, v3, v4, v5⟩, hv⟩ : ∃ v, rcv N R xs x = v := ⟨_, rfl⟩
  have hbd := rcv_bd N R xs x
  rw [hv] at hbd
  obtain ⟨hb3, hb4⟩ := hbd
  simp only at hb3 hb4
  have HN3 : Hid (v3.length ≤ 1048576) := Lib.hid (by omega)
  have HN4 : Hid (v4.length ≤ 1048576) := Lib.hid (by omega)
  have HV := Lib.hid hv
  clear hv
  have D0 := Lib.hid (Below.refl w.heap.size w)
  go_enter Try.func8, Try.ntmps8
  have AW0 := Lib.hid (Below.refl w.heap.size w)
  have RI := Lib.hid hI
  clear hI
  obtain ⟨w1, hw1, hb1, hz1, hx1⟩ : ∃ W, W = w.alloc (.cells #[.int .i64 N, .int .i64 R, .slice a n cap] 60) ∧ Below w.heap.size w W ∧ W.heap.size = w.heap.size + 1 ∧ Box W w.heap.size 60 [.int .i64 N, .int .i64 R, .slice a n cap] := head1 w 60 _
  have HW1 := Lib.hid hw1
  have z1 : w.heap.size + 1 ≤ w1.heap.size := by omega
  have D1 := Lib.hid (Below.step D0.out hb1 (by omega))
  have AW1 := Lib.hid (Below.step AW0.out hb1 (by omega))
  have BP1 := Lib.hid hx1
  clear hw1 hb1 hz1 hx1
  go_wp2_with fail
  rw [← HW1.out]
  refine (c_szReceiver N R a n cap 1048576 _ (by omega) hn0).mono ?_; rintro e w2 ⟨rfl, g2⟩
  have z2 := g2.size
  have D2 := Lib.hid (Below.step D1.out g2 (by omega))
  have AW2 := Lib.hid (Below.step AW1.out g2 (by omega))
  have BP2 := Lib.hid (BP1.out.keep g2)
  clear g2
  clear AW0
  clear AW1 BP1
  have hsz : ¬ (1048576 - (n : Int) < 0) := by omega
  obtain ⟨xP0, xP1, xP2, xPf⟩ := BP2.out.three
  go_wp2_with fail
  refine (c_toReceiver N R a n cap xs _ HL.out hn (RI.out.below AW2.out)).mono ?_; rintro e w3 ⟨a3, c3, rfl, o3, g3⟩
  clear xP0 xP1 xP2 xPf
  have z3 := (grown_below g3).size
  have D3 := Lib.hid (Below.step D2.out (grown_below g3) (by omega))
  have AW3 := Lib.hid (Below.step AW2.out (grown_below g3) (by omega))
  have BP3 := Lib.hid (BP2.out.keep (grown_below g3))
  have OA3 := Lib.hid o3
  have LA := Lib.hid (fun k hk => o3.lt k hk)
  clear g3 o3
  clear AW2 BP2
  go_wp2_with fail
  refine (s_Rcv_v HV.out a3 n c3 _ HL.out hn (own_ints OA3.out).1 (own_none OA3.out)).mono ?_; rintro e w4 ⟨a4, c4, a4', c4', rfl, o4, o4', -, -, -, -, g4⟩
  have z4 := g4.size
  have D4 := Lib.hid (Below.step D3.out g4 (by omega))
  have AW4 := Lib.hid (Below.step AW3.out g4 (by omega))
  have BP4 := Lib.hid (BP3.out.keep g4)
  have OA4 := Lib.hid (row_below OA3.out g4)
  clear g4
  clear AW3 BP3 OA3
  have AY4 := Lib.hid (Below.refl w4.heap.size w4)
  have RY := Lib.hid o4
  clear o4
  have RZ := Lib.hid o4'
  clear o4'
  clear OA4
  obtain ⟨w5, hw5, hb5, hz5, hx5⟩ : ∃ W, W = w4.alloc (.cells #[.int .i64 v1, .int .i64 v2, .slice a4 v3.length c4] 52) ∧ Below w4.heap.size w4 W ∧ W.heap.size = w4.heap.size + 1 ∧ Box W w4.heap.size 52 [.int .i64 v1, .int .i64 v2, .slice a4 v3.length c4] := head1 w4 52 _
  have HW5 := Lib.hid hw5
  have z5 : w4.heap.size + 1 ≤ w5.heap.size := by omega
  have D5 := Lib.hid (Below.step D4.out hb5 (by omega))
  have AW5 := Lib.hid (Below.step AW4.out hb5 (by omega))
  have AY5 := Lib.hid (Below.step AY4.out hb5 (by omega))
  have BP5 := Lib.hid (BP4.out.keep hb5)
  have BY5 := Lib.hid hx5
  clear hw5 hb5 hz5 hx5
  obtain ⟨xP0, xP1, xP2, xPf⟩ := BP4.out.three
  have xPl : w.heap.size < w4.heap.size := by omega
  go_wp2_with fail
  rw [← HW5.out]
  refine (c_toReceiver N R a n cap xs _ HL.out hn (RI.out.below AW5.out)).mono ?_; rintro e w6 ⟨a6, c6, rfl, o6, g6⟩
  clear xP0 xP1 xP2 xPf xPl
  have z6 := (grown_below g6).size
  have D6 := Lib.hid (Below.step D5.out (grown_below g6) (by omega))
  have AW6 := Lib.hid (Below.step AW5.out (grown_below g6) (by omega))
  have AY6 := Lib.hid (Below.step AY5.out (grown_below g6) (by omega))
  have BP6 := Lib.hid (BP5.out.keep (grown_below g6))
  have BY6 := Lib.hid (BY5.out.keep (grown_below g6))
  have OX06 := Lib.hid o6
  have LX0 := Lib.hid (fun k hk => o6.lt k hk)
  clear g6 o6
  clear AW4 AY4 BP4
  clear AW5 AY5 BP5 BY5
  obtain ⟨w7, hw7, hb7, hz7, hx7⟩ : ∃ W, W = w6.alloc (.cells #[.int .i64 N, .int .i64 R, .slice a6 n c6] 52) ∧ Below w6.heap.size w6 W ∧ W.heap.size = w6.heap.size + 1 ∧ Box W w6.heap.size 52 [.int .i64 N, .int .i64 R, .slice a6 n c6] := head1 w6 52 _
  have HW7 := Lib.hid hw7
  have z7 : w6.heap.size + 1 ≤ w7.heap.size := by omega
  have D7 := Lib.hid (Below.step D6.out hb7 (by omega))
  have AW7 := Lib.hid (Below.step AW6.out hb7 (by omega))
  have AY7 := Lib.hid (Below.step AY6.out hb7 (by omega))
  have BP7 := Lib.hid (BP6.out.keep hb7)
  have BY7 := Lib.hid (BY6.out.keep hb7)
  have OX07 := Lib.hid (row_below OX06.out hb7)
  have BX07 := Lib.hid hx7
  clear hw7 hb7 hz7 hx7
  go_wp2_with fail
  rw [← HW7.out]
  refine (c_Rcv_v HV.out a6 n c6 _ HL.out hn (own_ints OX07.out).1 (own_none OX07.out)).mono ?_; rintro e w8 ⟨a8, c8, a8', c8', rfl, o8, o8', s8, g8⟩
  have z8 := g8.size
  have D8 := Lib.hid (Below.step D7.out g8 (by omega))
  have AW8 := Lib.hid (Below.step AW7.out g8 (by omega))
  have AY8 := Lib.hid (Below.step AY7.out g8 (by omega))
  have BP8 := Lib.hid (BP7.out.keep g8)
  have BY8 := Lib.hid (BY7.out.keep g8)
  have BX08 := Lib.hid (BX07.out.keep g8)
  have OX08 := Lib.hid (row_below OX07.out g8)
  have OG8 := Lib.hid o8
  have LG := Lib.hid (fun k hk => o8.lt k hk)
  have OH8 := Lib.hid o8'
  have LH := Lib.hid (fun k hk => o8'.lt k hk)
  have SGH := Lib.hid s8
  clear g8 o8 o8' s8
  clear AW6 AY6 BP6 BY6 OX06
  clear AW7 AY7 BP7 BY7 BX07 OX07
  obtain ⟨w9, hw9, hb9, hz9, hx9⟩ : ∃ W, W = w8.alloc (.cells #[.int .i64 v1, .int .i64 v2, .slice a8 v3.length c8] 52) ∧ Below w8.heap.size w8 W ∧ W.heap.size = w8.heap.size + 1 ∧ Box W w8.heap.size 52 [.int .i64 v1, .int .i64 v2, .slice a8 v3.length c8] := head1 w8 52 _
  have HW9 := Lib.hid hw9
  have z9 : w8.heap.size + 1 ≤ w9.heap.size := by omega
  have D9 := Lib.hid (Below.step D8.out hb9 (by omega))
  have AW9 := Lib.hid (Below.step AW8.out hb9 (by omega))
  have AY9 := Lib.hid (Below.step AY8.out hb9 (by omega))
  have BP9 := Lib.hid (BP8.out.keep hb9)
  have BY9 := Lib.hid (BY8.out.keep hb9)
  have BX09 := Lib.hid (BX08.out.keep hb9)
  have OX09 := Lib.hid (row_below OX08.out hb9)
  have OG9 := Lib.hid (row_below OG8.out hb9)
  have OH9 := Lib.hid (row_below OH8.out hb9)
  have BG9 := Lib.hid hx9
  clear hw9 hb9 hz9 hx9
  obtain ⟨xY0, xY1, xY2, xYf⟩ := BY8.out.three
  have xYl : w4.heap.size < w8.heap.size := by omega
  go_wp2_with fail
  rw [← HW9.out]
  refine (c_eqReceiver v1 v2 _ _ v3.length _ _ v3 _ rfl HN3.out (own_ints OG9.out).1 (RY.out.below AY9.out)).mono ?_; rintro e w10 ⟨rfl, g10⟩
  clear xY0 xY1 xY2 xYf xYl
  have z10 := g10.size
  have D10 := Lib.hid (Below.step D9.out g10 (by omega))
  have AW10 := Lib.hid (Below.step AW9.out g10 (by omega))
  have AY10 := Lib.hid (Below.step AY9.out g10 (by omega))
  have BP10 := Lib.hid (BP9.out.keep g10)
  have BY10 := Lib.hid (BY9.out.keep g10)
  have BX010 := Lib.hid (BX09.out.keep g10)
  have BG10 := Lib.hid (BG9.out.keep g10)
  have OX010 := Lib.hid (row_below OX09.out g10)
  have OG10 := Lib.hid (row_below OG9.out g10)
  have OH10 := Lib.hid (row_below OH9.out g10)
  clear g10
  clear AW8 AY8 BP8 BY8 BX08 OX08 OG8 OH8
  clear AW9 AY9 BP9 BY9 BX09 BG9 OX09 OG9 OH9
  go_wp2_with fail
  refine (c_eqIntS _ _ v4.length _ _ v4 _ rfl HN4.out (own_ints OH10.out).1 (RZ.out.below AY10.out)).mono ?_; rintro e w11 ⟨rfl, g11⟩
  have z11 := g11.size
  have D11 := Lib.hid (Below.step D10.out g11 (by omega))
  have AW11 := Lib.hid (Below.step AW10.out g11 (by omega))
  have AY11 := Lib.hid (Below.step AY10.out g11 (by omega))
  have BP11 := Lib.hid (BP10.out.keep g11)
  have BY11 := Lib.hid (BY10.out.keep g11)
  have BX011 := Lib.hid (BX010.out.keep g11)
  have BG11 := Lib.hid (BG10.out.keep g11)
  have OX011 := Lib.hid (row_below OX010.out g11)
  have OG11 := Lib.hid (row_below OG10.out g11)
  have OH11 := Lib.hid (row_below OH10.out g11)
  clear g11
  clear AW10 AY10 BP10 BY10 BX010 BG10 OX010 OG10 OH10
  obtain ⟨xP0, xP1, xP2, xPf⟩ := BP11.out.three
  obtain ⟨xX00, xX01, xX02, xX0f⟩ := BX011.out.three
  go_upto_region 10 with fail
  go_cut [60] (fun s wx => s = .bool false ∧ Below w11.heap.size w11 wx)
  case first =>
    have hlt : w.heap.size < w11.heap.size ∧ w6.heap.size < w11.heap.size := ⟨by omega, by omega⟩
    have RJ := Lib.hid (RI.out.below AW11.out)
    have RK := Lib.hid (own_ints OX011.out).1
    have hD0 : Below w11.heap.size w11 w11.drew := below_drew (Below.refl _ _)
    go_region_held3 (fun w' => w'.cell? ⟨w.heap.size, 0, none⟩ = some (.int .i64 N) ∧ w'.cell? ⟨w.heap.size, 1, none⟩ = some (.int .i64 R) ∧ w'.cell? ⟨w.heap.size, 2, none⟩ = some (.slice a n cap) ∧ w'.cell? ⟨w6.heap.size, 0, none⟩ = some (.int .i64 N) ∧ w'.cell? ⟨w6.heap.size, 1, none⟩ = some (.int .i64 R) ∧ w'.cell? ⟨w6.heap.size, 2, none⟩ = some (.slice a6 n c6) ∧ Below w11.heap.size w11 w') (first | (with_reducible exact ⟨keepD0 xP0, keepD0 xP1, keepD0 xP2, keepD0 xX00, keepD0 xX01, keepD0 xX02, hD0⟩) | (with_reducible exact ⟨kk0, kk1, kk2, kk3, kk4, kk5, kk6⟩) | (trace "KEEP"; trace_state; fail))
      (first
        | (go_at_call 35; refine (c_toReceiver N R a n cap xs _ HL.out hn (RJ.out.below (by assumption))).mono ?_; rintro e w' ⟨a', c', rfl, o', g'⟩
           have kk0 : w'.cell? ⟨w.heap.size, 0, none⟩ = some (.int .i64 N) := ((grown_below g').cell (p := ⟨w.heap.size, 0, none⟩) (World.block_lt_of_cell? _ _ (by assumption))).trans (by assumption)
           have kk1 : w'.cell? ⟨w.heap.size, 1, none⟩ = some (.int .i64 R) := ((grown_below g').cell (p := ⟨w.heap.size, 1, none⟩) (World.block_lt_of_cell? _ _ (by assumption))).trans (by assumption)
           have kk2 : w'.cell? ⟨w.heap.size, 2, none⟩ = some (.slice a n cap) := ((grown_below g').cell (p := ⟨w.heap.size, 2, none⟩) (World.block_lt_of_cell? _ _ (by assumption))).trans (by assumption)
           have kk3 : w'.cell? ⟨w6.heap.size, 0, none⟩ = some (.int .i64 N) := ((grown_below g').cell (p := ⟨w6.heap.size, 0, none⟩) (World.block_lt_of_cell? _ _ (by assumption))).trans (by assumption)
           have kk4 : w'.cell? ⟨w6.heap.size, 1, none⟩ = some (.int .i64 R) := ((grown_below g').cell (p := ⟨w6.heap.size, 1, none⟩) (World.block_lt_of_cell? _ _ (by assumption))).trans (by assumption)
           have kk5 : w'.cell? ⟨w6.heap.size, 2, none⟩ = some (.slice a6 n c6) := ((grown_below g').cell (p := ⟨w6.heap.size, 2, none⟩) (World.block_lt_of_cell? _ _ (by assumption))).trans (by assumption)
           have kk6 : Below w11.heap.size w11 w' := Below.step (by assumption) (grown_below g') (by have := Below.size (by assumption : Below w11.heap.size w11 _); omega)
           have OT := Lib.hid o'
           clear g' o')
        | (go_at_call 36; refine (c_eqReceiver N R _ _ n _ _ xs _ HL.out hn (RK.out.below (by assumption)) (own_ints OT.out).1).mono ?_; rintro e w' ⟨rfl, hb⟩
           have kk0 : w'.cell? ⟨w.heap.size, 0, none⟩ = some (.int .i64 N) := (hb.cell (p := ⟨w.heap.size, 0, none⟩) (World.block_lt_of_cell? _ _ (by assumption))).trans (by assumption)
           have kk1 : w'.cell? ⟨w.heap.size, 1, none⟩ = some (.int .i64 R) := (hb.cell (p := ⟨w.heap.size, 1, none⟩) (World.block_lt_of_cell? _ _ (by assumption))).trans (by assumption)
           have kk2 : w'.cell? ⟨w.heap.size, 2, none⟩ = some (.slice a n cap) := (hb.cell (p := ⟨w.heap.size, 2, none⟩) (World.block_lt_of_cell? _ _ (by assumption))).trans (by assumption)
           have kk3 : w'.cell? ⟨w6.heap.size, 0, none⟩ = some (.int .i64 N) := (hb.cell (p := ⟨w6.heap.size, 0, none⟩) (World.block_lt_of_cell? _ _ (by assumption))).trans (by assumption)
           have kk4 : w'.cell? ⟨w6.heap.size, 1, none⟩ = some (.int .i64 R) := (hb.cell (p := ⟨w6.heap.size, 1, none⟩) (World.block_lt_of_cell? _ _ (by assumption))).trans (by assumption)
           have kk5 : w'.cell? ⟨w6.heap.size, 2, none⟩ = some (.slice a6 n c6) := (hb.cell (p := ⟨w6.heap.size, 2, none⟩) (World.block_lt_of_cell? _ _ (by assumption))).trans (by assumption)
           have kk6 : Below w11.heap.size w11 w' := Below.step (by assumption) hb (by have := Below.size (by assumption : Below w11.heap.size w11 _); omega)
           clear hb))
    go_wp2_with fail
    go_meet
    exact ⟨rfl, by assumption⟩
  case rest =>
    obtain ⟨rfl, g12⟩ := hcut
    obtain ⟨w12, rfl⟩ : ∃ wo : World, wo = wc := ⟨_, rfl⟩
    have z12 := g12.size
    have D12 := Lib.hid (Below.step D11.out g12 (by omega))
    have AW12 := Lib.hid (Below.step AW11.out g12 (by omega))
    have AY12 := Lib.hid (Below.step AY11.out g12 (by omega))
    have BP12 := Lib.hid (BP11.out.keep g12)
    have BY12 := Lib.hid (BY11.out.keep g12)
    have BX012 := Lib.hid (BX011.out.keep g12)
    have BG12 := Lib.hid (BG11.out.keep g12)
    have OX012 := Lib.hid (row_below OX011.out g12)
    have OG12 := Lib.hid (row_below OG11.out g12)
    have OH12 := Lib.hid (row_below OH11.out g12)
    clear g12
    clear xP0 xP1 xP2 xPf xX00 xX01 xX02 xX0f
    clear AW11 AY11 BP11 BY11 BX011 BG11 OX011 OG11 OH11
    obtain ⟨xX00, xX01, xX02, xX0f⟩ := BX012.out.three
    go_wp2_with fail
    refine (c_markReceiver _ N R _ n _ 1 xs _ hn (by omega) (by omega) OX012.out).mono ?_; rintro e w13 ⟨rfl, o13, g13⟩
    clear xX00 xX01 xX02 xX0f
    have z13 := g13.size
    have D13 := Lib.hid (D12.out.grown g13 (by omega) (fun k hk => by have := (LX0.out k hk).1; omega))
    have AW13 := Lib.hid (AW12.out.grown g13 (by omega) (fun k hk => by have := (LX0.out k hk).1; omega))
    have AY13 := Lib.hid (AY12.out.grown g13 (by omega) (fun k hk => by have := (LX0.out k hk).1; omega))
    have BP13 := Lib.hid (Box.kept BP12.out g13 (fun hk => by have := LX0.out _ hk; omega))
    have BY13 := Lib.hid (Box.kept BY12.out g13 (fun hk => by have := LX0.out _ hk; omega))
    have BX013 := Lib.hid (Box.kept BX012.out g13 (fun hk => by have := LX0.out _ hk; omega))
    have BG13 := Lib.hid (Box.kept BG12.out g13 (fun hk => by have := LX0.out _ hk; omega))
    have OG13 := Lib.hid (row_kept OG12.out g13 (fun k hk h => by have := LG.out k hk; have := LX0.out k h; omega))
    have OH13 := Lib.hid (row_kept OH12.out g13 (fun k hk h => by have := LH.out k hk; have := LX0.out k h; omega))
    have OX013 := Lib.hid o13
    clear o13 g13
    clear AW12 AY12 BP12 BY12 BX012 BG12 OX012 OG12 OH12
    have hk1 : ¬ (1 + (n : Int) < 0) := by omega
    obtain ⟨xG0, xG1, xG2, xGf⟩ := BG13.out.three
    obtain ⟨xY0, xY1, xY2, xYf⟩ := BY13.out.three
    go_wp2_with fail
    refine (c_eqReceiver v1 v2 _ _ v3.length _ _ v3 _ rfl HN3.out (own_ints OG13.out).1 (RY.out.below AY13.out)).mono ?_; rintro e w14 ⟨rfl, g14⟩
    clear xG0 xG1 xG2 xGf xY0 xY1 xY2 xYf
    have z14 := g14.size
    have D14 := Lib.hid (Below.step D13.out g14 (by omega))
    have AW14 := Lib.hid (Below.step AW13.out g14 (by omega))
    have AY14 := Lib.hid (Below.step AY13.out g14 (by omega))
    have BP14 := Lib.hid (BP13.out.keep g14)
    have BY14 := Lib.hid (BY13.out.keep g14)
    have BX014 := Lib.hid (BX013.out.keep g14)
    have BG14 := Lib.hid (BG13.out.keep g14)
    have OX014 := Lib.hid (row_below OX013.out g14)
    have OG14 := Lib.hid (row_below OG13.out g14)
    have OH14 := Lib.hid (row_below OH13.out g14)
    clear g14
    clear AW13 AY13 BP13 BY13 BX013 BG13 OX013 OG13 OH13
    go_wp2_with fail
    refine (c_eqIntS _ _ v4.length _ _ v4 _ rfl HN4.out (own_ints OH14.out).1 (RZ.out.below AY14.out)).mono ?_; rintro e w15 ⟨rfl, g15⟩
    have z15 := g15.size
    have D15 := Lib.hid (Below.step D14.out g15 (by omega))
    have AW15 := Lib.hid (Below.step AW14.out g15 (by omega))
    have AY15 := Lib.hid (Below.step AY14.out g15 (by omega))
    have BP15 := Lib.hid (BP14.out.keep g15)
    have BY15 := Lib.hid (BY14.out.keep g15)
    have BX015 := Lib.hid (BX014.out.keep g15)
    have BG15 := Lib.hid (BG14.out.keep g15)
    have OX015 := Lib.hid (row_below OX014.out g15)
    have OG15 := Lib.hid (row_below OG14.out g15)
    have OH15 := Lib.hid (row_below OH14.out g15)
    clear g15
    clear AW14 AY14 BP14 BY14 BX014 BG14 OX014 OG14 OH14
    obtain ⟨xG0, xG1, xG2, xGf⟩ := BG15.out.three
    go_wp2_with fail
    refine (c_markReceiver _ v1 v2 _ v3.length _ 1 v3 _ HN3.out (by omega) (by omega) OG15.out).mono ?_; rintro e w16 ⟨rfl, o16, g16⟩
    clear xG0 xG1 xG2 xGf
    have z16 := g16.size
    have D16 := Lib.hid (D15.out.grown g16 (by omega) (fun k hk => by have := (LG.out k hk).1; omega))
    have AW16 := Lib.hid (AW15.out.grown g16 (by omega) (fun k hk => by have := (LG.out k hk).1; omega))
    have AY16 := Lib.hid (AY15.out.grown g16 (by omega) (fun k hk => by have := (LG.out k hk).1; omega))
    have BP16 := Lib.hid (Box.kept BP15.out g16 (fun hk => by have := LG.out _ hk; omega))
    have BY16 := Lib.hid (Box.kept BY15.out g16 (fun hk => by have := LG.out _ hk; omega))
    have BX016 := Lib.hid (Box.kept BX015.out g16 (fun hk => by have := LG.out _ hk; omega))
    have BG16 := Lib.hid (Box.kept BG15.out g16 (fun hk => by have := LG.out _ hk; omega))
    have OX016 := Lib.hid (row_kept OX015.out g16 (fun k hk h => by have := LX0.out k hk; have := LG.out k h; omega))
    have OH16 := Lib.hid (row_kept OH15.out g16 (fun k hk h => SGH.out k h hk))
    have OG16 := Lib.hid o16
    clear o16 g16
    clear AW15 AY15 BP15 BY15 BX015 BG15 OX015 OG15 OH15
    go_wp2_with fail
    refine (r_markIntS _ v4.length _ _ (1 + (v3.length : Int)) v4 _ HN4.out (by omega) (by omega) OH16.out).mono ?_; rintro e w17 ⟨rfl, o17, g17⟩
    have z17 := g17.size
    have D17 := Lib.hid (D16.out.grown g17 (by omega) (fun k hk => by have := (LH.out k hk).1; omega))
    have AW17 := Lib.hid (AW16.out.grown g17 (by omega) (fun k hk => by have := (LH.out k hk).1; omega))
    have AY17 := Lib.hid (AY16.out.grown g17 (by omega) (fun k hk => by have := (LH.out k hk).1; omega))
    have BP17 := Lib.hid (Box.kept BP16.out g17 (fun hk => by have := LH.out _ hk; omega))
    have BY17 := Lib.hid (Box.kept BY16.out g17 (fun hk => by have := LH.out _ hk; omega))
    have BX017 := Lib.hid (Box.kept BX016.out g17 (fun hk => by have := LH.out _ hk; omega))
    have BG17 := Lib.hid (Box.kept BG16.out g17 (fun hk => by have := LH.out _ hk; omega))
    have OX017 := Lib.hid (row_kept OX016.out g17 (fun k hk h => by have := LX0.out k hk; have := LH.out k h; omega))
    have OG17 := Lib.hid (row_kept OG16.out g17 (fun k hk h => SGH.out k hk h))
    have OH17 := Lib.hid o17
    clear o17 g17
    clear AW16 AY16 BP16 BY16 BX016 BG16 OX016 OG16 OH16
    have hh1 : ¬ (1 + (v3.length : Int) < 0) := by omega
    have hh2 : ¬ (1 + (v3.length : Int) + (v4.length : Int) < 0) := by omega
    obtain ⟨xG0, xG1, xG2, xGf⟩ := BG17.out.three
    go_wp2_with fail
    refine (c_heldReceiver v1 v2 _ v3.length _ 1 _ HN3.out (by omega) (by omega) (own_ints OG17.out).1).mono ?_; rintro e w18 ⟨rfl, g18⟩
    clear xG0 xG1 xG2 xGf
    have z18 := g18.size
    have D18 := Lib.hid (Below.step D17.out g18 (by omega))
    have AW18 := Lib.hid (Below.step AW17.out g18 (by omega))
    have AY18 := Lib.hid (Below.step AY17.out g18 (by omega))
    have BP18 := Lib.hid (BP17.out.keep g18)
    have BY18 := Lib.hid (BY17.out.keep g18)
    have BX018 := Lib.hid (BX017.out.keep g18)
    have BG18 := Lib.hid (BG17.out.keep g18)
    have OX018 := Lib.hid (row_below OX017.out g18)
    have OG18 := Lib.hid (row_below OG17.out g18)
    have OH18 := Lib.hid (row_below OH17.out g18)
    clear g18
    clear AW17 AY17 BP17 BY17 BX017 BG17 OX017 OG17 OH17
    go_wp2_with fail
    refine (c_heldIntS _ v4.length _ (1 + (v3.length : Int)) _ HN4.out (by omega) (by omega) (own_ints OH18.out).1).mono ?_; rintro e w' ⟨rfl, rfl⟩
    obtain ⟨xP0, xP1, xP2, xPf⟩ := BP18.out.three
    go_wp2_with fail
    refine (c_toReceiver N R a n cap xs _ HL.out hn (RI.out.below AW18.out)).mono ?_; rintro e w19 ⟨a19, c19, rfl, o19, g19⟩
    clear xP0 xP1 xP2 xPf
    have z19 := (grown_below g19).size
    have D19 := Lib.hid (Below.step D18.out (grown_below g19) (by omega))
    have AW19 := Lib.hid (Below.step AW18.out (grown_below g19) (by omega))
    have AY19 := Lib.hid (Below.step AY18.out (grown_below g19) (by omega))
    have BP19 := Lib.hid (BP18.out.keep (grown_below g19))
    have BY19 := Lib.hid (BY18.out.keep (grown_below g19))
    have BX019 := Lib.hid (BX018.out.keep (grown_below g19))
    have BG19 := Lib.hid (BG18.out.keep (grown_below g19))
    have OX019 := Lib.hid (row_below OX018.out (grown_below g19))
    have OG19 := Lib.hid (row_below OG18.out (grown_below g19))
    have OH19 := Lib.hid (row_below OH18.out (grown_below g19))
    have OA19 := Lib.hid o19
    have LA := Lib.hid (fun k hk => o19.lt k hk)
    clear g19 o19
    clear AW18 AY18 BP18 BY18 BX018 BG18 OX018 OG18 OH18
    go_wp2_with fail
    refine (c_Rcv_v HV.out a19 n c19 _ HL.out hn (own_ints OA19.out).1 (own_none OA19.out)).mono ?_; rintro e w20 ⟨a20, c20, a20', c20', rfl, o20, o20', s20, g20⟩
    have z20 := g20.size
    have D20 := Lib.hid (Below.step D19.out g20 (by omega))
    have AW20 := Lib.hid (Below.step AW19.out g20 (by omega))
    have AY20 := Lib.hid (Below.step AY19.out g20 (by omega))
    have BP20 := Lib.hid (BP19.out.keep g20)
    have BY20 := Lib.hid (BY19.out.keep g20)
    have BX020 := Lib.hid (BX019.out.keep g20)
    have BG20 := Lib.hid (BG19.out.keep g20)
    have OX020 := Lib.hid (row_below OX019.out g20)
    have OG20 := Lib.hid (row_below OG19.out g20)
    have OH20 := Lib.hid (row_below OH19.out g20)
    have OA20 := Lib.hid (row_below OA19.out g20)
    have OU20 := Lib.hid o20
    have LU := Lib.hid (fun k hk => o20.lt k hk)
    have OV20 := Lib.hid o20'
    have LV := Lib.hid (fun k hk => o20'.lt k hk)
    have SUV := Lib.hid s20
    clear g20 o20 o20' s20
    clear AW19 AY19 BP19 BY19 BX019 BG19 OX019 OG19 OH19 OA19
    clear OA20
    obtain ⟨w21, hw21, hb21, hz21, hx21⟩ : ∃ W, W = w20.alloc (.cells #[.int .i64 v1, .int .i64 v2, .slice a20 v3.length c20] 52) ∧ Below w20.heap.size w20 W ∧ W.heap.size = w20.heap.size + 1 ∧ Box W w20.heap.size 52 [.int .i64 v1, .int .i64 v2, .slice a20 v3.length c20] := head1 w20 52 _
    have HW21 := Lib.hid hw21
    have z21 : w20.heap.size + 1 ≤ w21.heap.size := by omega
    have D21 := Lib.hid (Below.step D20.out hb21 (by omega))
    have AW21 := Lib.hid (Below.step AW20.out hb21 (by omega))
    have AY21 := Lib.hid (Below.step AY20.out hb21 (by omega))
    have BP21 := Lib.hid (BP20.out.keep hb21)
    have BY21 := Lib.hid (BY20.out.keep hb21)
    have BX021 := Lib.hid (BX020.out.keep hb21)
    have BG21 := Lib.hid (BG20.out.keep hb21)
    have OX021 := Lib.hid (row_below OX020.out hb21)
    have OG21 := Lib.hid (row_below OG20.out hb21)
    have OH21 := Lib.hid (row_below OH20.out hb21)
    have OU21 := Lib.hid (row_below OU20.out hb21)
    have OV21 := Lib.hid (row_below OV20.out hb21)
    have BU21 := Lib.hid hx21
    clear hw21 hb21 hz21 hx21
    obtain ⟨xY0, xY1, xY2, xYf⟩ := BY20.out.three
    have xYl : w4.heap.size < w20.heap.size := by omega
    go_wp2_with fail
    rw [← HW21.out]
    refine (c_eqReceiver v1 v2 _ _ v3.length _ _ v3 _ rfl HN3.out (own_ints OU21.out).1 (RY.out.below AY21.out)).mono ?_; rintro e w22 ⟨rfl, g22⟩
    clear xY0 xY1 xY2 xYf xYl
    have z22 := g22.size
    have D22 := Lib.hid (Below.step D21.out g22 (by omega))
    have AW22 := Lib.hid (Below.step AW21.out g22 (by omega))
    have AY22 := Lib.hid (Below.step AY21.out g22 (by omega))
    have BP22 := Lib.hid (BP21.out.keep g22)
    have BY22 := Lib.hid (BY21.out.keep g22)
    have BX022 := Lib.hid (BX021.out.keep g22)
    have BG22 := Lib.hid (BG21.out.keep g22)
    have BU22 := Lib.hid (BU21.out.keep g22)
    have OX022 := Lib.hid (row_below OX021.out g22)
    have OG22 := Lib.hid (row_below OG21.out g22)
    have OH22 := Lib.hid (row_below OH21.out g22)
    have OU22 := Lib.hid (row_below OU21.out g22)
    have OV22 := Lib.hid (row_below OV21.out g22)
    clear g22
    clear AW20 AY20 BP20 BY20 BX020 BG20 OX020 OG20 OH20 OU20 OV20
    clear AW21 AY21 BP21 BY21 BX021 BG21 BU21 OX021 OG21 OH21 OU21 OV21
    go_wp2_with fail
    refine (c_eqIntS _ _ v4.length _ _ v4 _ rfl HN4.out (own_ints OV22.out).1 (RZ.out.below AY22.out)).mono ?_; rintro e w23 ⟨rfl, g23⟩
    have z23 := g23.size
    have D23 := Lib.hid (Below.step D22.out g23 (by omega))
    have AW23 := Lib.hid (Below.step AW22.out g23 (by omega))
    have AY23 := Lib.hid (Below.step AY22.out g23 (by omega))
    have BP23 := Lib.hid (BP22.out.keep g23)
    have BY23 := Lib.hid (BY22.out.keep g23)
    have BX023 := Lib.hid (BX022.out.keep g23)
    have BG23 := Lib.hid (BG22.out.keep g23)
    have BU23 := Lib.hid (BU22.out.keep g23)
    have OX023 := Lib.hid (row_below OX022.out g23)
    have OG23 := Lib.hid (row_below OG22.out g23)
    have OH23 := Lib.hid (row_below OH22.out g23)
    have OU23 := Lib.hid (row_below OU22.out g23)
    have OV23 := Lib.hid (row_below OV22.out g23)
    clear g23
    clear AW22 AY22 BP22 BY22 BX022 BG22 BU22 OX022 OG22 OH22 OU22 OV22
    obtain ⟨xG0, xG1, xG2, xGf⟩ := BG23.out.three
    go_wp2_with fail
    refine (c_heldReceiver v1 v2 _ v3.length _ 1 _ HN3.out (by omega) (by omega) (own_ints OG23.out).1).mono ?_; rintro e w24 ⟨rfl, g24⟩
    clear xG0 xG1 xG2 xGf
    have z24 := g24.size
    have D24 := Lib.hid (Below.step D23.out g24 (by omega))
    have AW24 := Lib.hid (Below.step AW23.out g24 (by omega))
    have AY24 := Lib.hid (Below.step AY23.out g24 (by omega))
    have BP24 := Lib.hid (BP23.out.keep g24)
    have BY24 := Lib.hid (BY23.out.keep g24)
    have BX024 := Lib.hid (BX023.out.keep g24)
    have BG24 := Lib.hid (BG23.out.keep g24)
    have BU24 := Lib.hid (BU23.out.keep g24)
    have OX024 := Lib.hid (row_below OX023.out g24)
    have OG24 := Lib.hid (row_below OG23.out g24)
    have OH24 := Lib.hid (row_below OH23.out g24)
    have OU24 := Lib.hid (row_below OU23.out g24)
    have OV24 := Lib.hid (row_below OV23.out g24)
    clear g24
    clear AW23 AY23 BP23 BY23 BX023 BG23 BU23 OX023 OG23 OH23 OU23 OV23
    go_wp2_with fail
    refine (c_heldIntS _ v4.length _ (1 + (v3.length : Int)) _ HN4.out (by omega) (by omega) (own_ints OH24.out).1).mono ?_; rintro e w' ⟨rfl, rfl⟩
    go_wp2_with fail
    go_ret
    exact ⟨rfl, D24.out⟩
end Go.Proofs.Ytalalapjanckdaa
